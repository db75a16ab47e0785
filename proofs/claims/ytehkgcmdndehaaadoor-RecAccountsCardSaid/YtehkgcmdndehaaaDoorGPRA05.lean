/-
  Words for readers: what a reading call leaves; a slice of bytes cut in two.
-/
/-
  slices.Clone of bytes.
-/
import Derived.Test.YtehkgcmdndehaaaDoorGPRA03
import Derived.Test.YtehkgcmdndehaaaDoorGPRA01
namespace Go.Proofs.YtehkgcmdndehaaaDoor
set_option linter.unusedSimpArgs false
set_option linter.unusedVariables false
open Go.RowKit

theorem cell_set_same {w : World} {a : Addr} {u v : Value} (h : w.cell? a = some u) : (w.setCell a v).cell? a = some v := World.cell?_setCell_same (w := w) (a := a) (v := v) h
theorem cell_set_ne {w : World} {a b : Addr} {v : Value} (h : a ≠ b) : (w.setCell a v).cell? b = w.cell? b := World.cell?_setCell_other (w := w) (a := a) (b := b) (v := v) h

/-- What a reading call leaves. -/
structure Rds (w w' : World) (rb : Nat) : Prop where
  os : w'.os = w.os
  tape : w'.tape = w.tape
  output : w'.output = w.output
  size : w.heap.size ≤ w'.heap.size
  block : ∀ k, k < w.heap.size → k ≠ rb → w'.heap[k]? = w.heap[k]?
  row : ∀ o, o ≠ 0 → o ≠ 1 → w'.cell? ⟨rb, o, none⟩ = w.cell? ⟨rb, o, none⟩
  frz : ∀ o, w'.frozen? ⟨rb, o, none⟩ = w.frozen? ⟨rb, o, none⟩

theorem Rds.refl (w : World) (rb : Nat) : Rds w w rb := ⟨rfl, rfl, rfl, Nat.le_refl _, fun _ _ _ => rfl, fun _ _ _ => rfl, fun _ => rfl⟩
theorem Rds.trans {a b c : World} {rb : Nat} (h : Rds a b rb) (k : Rds b c rb) : Rds a c rb :=
  ⟨k.os.trans h.os, k.tape.trans h.tape, k.output.trans h.output, Nat.le_trans h.size k.size, fun j hj hr => (k.block j (Nat.lt_of_lt_of_le hj h.size) hr).trans (h.block j hj hr),
    fun o h0 h1 => (k.row o h0 h1).trans (h.row o h0 h1), fun o => (k.frz o).trans (h.frz o)⟩
theorem Rds.cell {w w' : World} {rb : Nat} (h : Rds w w' rb) {a : Addr} (hk : a.block < w.heap.size) (hr : a.block ≠ rb) : w'.cell? a = w.cell? a := World.cell?_of_block (h.block _ hk hr)
theorem Rds.frozen {w w' : World} {rb : Nat} (h : Rds w w' rb) {a : Addr} (hk : a.block < w.heap.size) (hr : a.block ≠ rb) : w'.frozen? a = w.frozen? a := World.frozen?_of_block (h.block _ hk hr)
theorem Rds.of_below {w w' : World} {rb : Nat} (hB : Below w.heap.size w w') (hb : rb < w.heap.size) : Rds w w' rb :=
  ⟨hB.os, hB.tape, hB.output, hB.size, fun k hk _ => hB.block k hk, fun o _ _ => hB.cell (p := ⟨rb, o, none⟩) hb, fun o => hB.frozen (p := ⟨rb, o, none⟩) hb⟩
theorem Rds.below {w w' : World} {rb B : Nat} (h : Rds w w' rb) (hB : B ≤ rb) (hs : B ≤ w.heap.size) : Below B w w' :=
  ⟨h.os, h.tape, h.output, h.size, fun k hk => h.block k (by omega) (by omega)⟩
/-- What is read elsewhere reads as it did. -/
theorem Reads.rds {w w' : World} {rb : Nat} {v : Value} {zs : List UInt8} (h : Reads w v zs) (hr : Rds w w' rb) (hv : v.ownBlock ≠ some rb) : Reads w' v zs := by
  rcases h with h | ⟨b, off, cap, rfl, hc, hb, hx⟩
  · exact .inl h
  · exact .inr ⟨b, off, cap, rfl, hc, Nat.lt_of_lt_of_le hb hr.size, fun i x hi => (hr.cell (a := ⟨b, off + i, none⟩) hb (fun e => hv (by rw [show b = rb from e]; rfl))).trans (hx i x hi)⟩

theorem zeros_reads {w : World} {base n : Nat} {v : Value} (h : w.ownsRow base 5 1 v n (madeCells #[Value.int .u8 0] n).toList) : Reads w v (List.replicate n 0) := by
  have e : (madeCells #[Value.int .u8 0] n).toList = bcells (List.replicate n 0) := by
    rw [toList_madeCells_one]
    simp [bcells]
  rw [e] at h
  exact Reads.of_own (base := base) (by simpa using h)

/-- A slice that reads, cut in two. -/
theorem reads_take {w : World} {b off cap : Nat} {zs : List UInt8} (n : Nat) (hn : n ≤ zs.length) (hc : zs.length ≤ cap) (hb : b < w.heap.size)
    (hx : ∀ (i : Nat) (x : UInt8), zs[i]? = some x → w.cell? ⟨b, off + i, none⟩ = some (.int .u8 (x.toNat : Int))) : Reads w (.slice (some ⟨b, off, none⟩) n cap) (zs.take n) := by
  refine .inr ⟨b, off, cap, by rw [List.length_take, Nat.min_eq_left hn], by rw [List.length_take]; omega, hb, fun i x hi => ?_⟩
  rw [List.getElem?_take] at hi
  split at hi
  · exact hx i x hi
  · cases hi
theorem reads_drop {w : World} {b off cap : Nat} {zs : List UInt8} (n : Nat) (hn : n ≤ zs.length) (hc : zs.length ≤ cap) (hb : b < w.heap.size)
    (hx : ∀ (i : Nat) (x : UInt8), zs[i]? = some x → w.cell? ⟨b, off + i, none⟩ = some (.int .u8 (x.toNat : Int))) : Reads w (.slice (some ⟨b, off + n, none⟩) (zs.length - n) (cap - n)) (zs.drop n) := by
  refine .inr ⟨b, off + n, cap - n, by rw [List.length_drop], by rw [List.length_drop]; omega, hb, fun i x hi => ?_⟩
  rw [List.getElem?_drop] at hi
  rw [Nat.add_assoc]
  exact hx _ x hi
theorem reads_drop_all {w : World} {b off cap : Nat} {zs : List UInt8} (hc : zs.length ≤ cap) (hb : b < w.heap.size) : Reads w (.slice (some ⟨b, off, none⟩) 0 0) (zs.drop cap) := by
  have e : zs.drop cap = [] := List.drop_eq_nil_of_le hc
  exact .inr ⟨b, off, 0, by rw [e]; rfl, by rw [e]; simp, hb, fun i x hi => by rw [e] at hi; simp at hi⟩

end Go.Proofs.YtehkgcmdndehaaaDoor

namespace Go.Proofs.YtehkgcmdndehaaaDoor
set_option linter.unusedSimpArgs false
set_option linter.unusedVariables false
open Go.RowKit

/-- A copy of bytes. -/
def ClonePost (w : World) (zs : List UInt8) (e : Ending) (w' : World) : Prop :=
  ∃ v', e = .returned v' ∧ Reads w' v' zs ∧ (∀ k, v'.ownBlock = some k → w.heap.size ≤ k) ∧ Below w.heap.size w w'

set_option maxHeartbeats 800000 in
set_option maxRecDepth 100000 in
theorem clone_bytes (v : Value) (zs : List UInt8) (w : World) (h : Reads w v zs) (hl : Fits zs.length) :
    Calls Tryd.prog 60 #[v] w (ClonePost w zs) := by
  obtain ⟨i0, hi, hz0, hz1, hz2⟩ := info_parts infoU8
  have q28 : ∀ (w : World) (a : Option Addr) (n c n' c' : Nat), (binOp .eql 29 (.slice a n c) (.slice none n' c')).run Tryd.prog w = .ok (.bool a.isNone) w := fun w a n c n' c' => Lib.run_eql_slice_nil w _ _ a n c n' c' Tryd.underlying29
  rcases h with ⟨rfl, he⟩ | ⟨b, off, cap, rfl, hlc, hbb, hx⟩
  · go_enter Tryd.func60, Tryd.ntmps60
    go_wp2
    go_ret
    exact ⟨.slice none 0 0, rfl, .inl ⟨rfl, he⟩, fun k e => (by cases e), Below.refl _ _⟩
  · have HX := Lib.hid hx
    clear hx
    go_enter Tryd.func60, Tryd.ntmps60
    go_wp2_with (at_builtin; refine wpList_append_own _ rfl _ _ 29 rfl w.heap.size 5 i0 (.int .u8 0) 1 1 Tryd.underlying29 hi hz0 hz1 hz2 rfl (by decide) _ _ _ rfl (World.ownsRow_made w #[] 0 (Nat.le_refl _) (Nat.zero_le _) rfl) ⟨b, off, none⟩ zs.length cap (bcells zs) rfl ?qc1 ?qc2 (bcells_oneCell _) ?qc4 ?qc5 ?qc6 ?_)
    case qc1 => simp [bcells]
    case qc2 =>
      intro j u hj
      have hjn : j < zs.length := by
        have := (List.getElem?_eq_some_iff.1 hj).1
        simpa [bcells] using this
      rw [Addr.add_lit]
      refine Lib.cell?_alloc_some _ ?_
      have hx := HX.out j zs[j] (List.getElem?_eq_getElem hjn)
      have e : (bcells zs)[j]? = some (.int .u8 (zs[j].toNat : Int)) := by simp [bcells, hjn]
      rw [e] at hj
      cases hj
      exact hx
    case qc4 => have := hl; unfold Fits at this; unfold maxLen; omega
    case qc5 => have := hl; unfold Fits at this; omega
    case qc6 => simp
    intro v' w1 hown hgrow hnil
    have hB : Below w.heap.size w w1 := ((Below.refl _ w).alloc (Nat.le_refl _) _).grown hgrow (by simp) (by intro k hk; simp [Value.ownBlock] at hk; omega)
    have F : Hid (ClonePost w zs (.returned v') w1) := Lib.hid (by
      have hown' : w1.ownsRow w.heap.size 5 1 v' zs.length (bcells zs) := by simpa using hown
      exact ⟨v', rfl, Reads.of_own hown', fun k e => (hown'.lt k e).1, hB⟩)
    clear hown hgrow hnil hB
    go_wp2
    go_ret
    exact F.out

end Go.Proofs.YtehkgcmdndehaaaDoor

namespace Go.Proofs.YtehkgcmdndehaaaDoor
set_option linter.unusedSimpArgs false
set_option linter.unusedVariables false
open Go.RowKit

theorem grew_str {w w1 : World} {v v' : Value} (hgrow : w.grownBy w1 v.ownBlock) (hat : v'.ownBlock = v.ownBlock ∨ v'.ownBlock = some w.heap.size) : Grew w w1 v v' :=
  ⟨hgrow.os, hgrow.tape, hgrow.output, hgrow.size, fun k hk hv => hgrow.block k hk (fun e => hv e.symm), by
    rcases hat with h | h
    · exact .inl h
    · exact .inr ⟨_, h, Nat.le_refl _⟩⟩

set_option maxHeartbeats 1600000 in
set_option maxRecDepth 100000 in
theorem ref_wtext (base : Nat) (v : Value) (xs : List UInt8) (s : ByteArray) (w : World) (hown : OwnB w base v xs) (hb : base ≤ w.heap.size) (hl : Fits (xs.length + 1 + s.size)) :
    Calls Tryd.prog 32 #[v, .string s] w (GrewPost w base v (xs ++ encText s)) := by
  obtain ⟨i0, hi, hz0, hz1, hz2⟩ := info_parts infoU8
  have hf1 : Fits (xs.length + 1) := hl.le (by omega)
  have HO := Lib.hid hown
  unfold OwnB at hown
  go_enter Tryd.func32, Tryd.ntmps32
  go_wp2_with (first
    | (at_builtin; refine wpList_append_lies _ rfl (.tmp 5) (.tmp 9) 29 rfl base 5 i0 (.int .u8 0) 1 1 Tryd.underlying29 hi hz0 hz1 hz2 rfl (by decide) v xs.length (bcells xs) rfl (hown.alloc _) ⟨w.heap.size, 0, none⟩ 1 1 (bcells [byteOf s.size]) rfl rfl ?c1 (bcells_oneCell _) (by decide) hf1.max hf1.reach (by simp; omega) (w.heap.size + 1) (by simp) ?_))
  case c1 => intro j u hj; match j, hj with | 0, hj => simp [bcells, byteOf_mod] at hj; subst hj; simp [Addr.add]
  intro g' cap w1 hown1 hgrow hg hlt
  have G1 : Grew w w1 v (.slice (some ⟨g', 0, none⟩) (xs.length + 1) cap) := grew_of (below_alloc w _) hgrow (hg.imp id (fun h => by omega)) (S := w.heap.size + 1) (by omega)
  have hown1' : w1.ownsRow base 5 1 (.slice (some ⟨g', 0, none⟩) (xs.length + 1) cap) (xs.length + 1) (bcells (xs ++ [byteOf s.size])) := by simpa [bcells] using hown1
  have hsz := G1.size
  have GG := Lib.hid G1
  clear hown1 hgrow hg G1 hown
  go_wp2_with (at_builtin; refine wpList_append_str _ rfl (.tmp 10) (.tmp 11) 29 9 rfl base 5 i0 Tryd.underlying29 Tryd.underlying9 hi hz0 hz1 hz2 _ _ _ rfl hown1' s rfl hl.max hl.reach' (by omega) ?_)
  intro v2 w2 hown2 hgrow2 hat2
  have fin : GrewPost w base v (xs ++ encText s) (.returned v2) w2 := by
    refine ⟨v2, rfl, ?_, GG.out.trans (grew_str hgrow2 hat2)⟩
    have e : xs ++ encText s = (xs ++ [byteOf s.size]) ++ s.data.toList := by rw [List.append_assoc]; rfl
    unfold OwnB
    rw [e]
    have hlen : ((xs ++ [byteOf s.size]) ++ s.data.toList).length = xs.length + 1 + s.size := by rw [List.length_append, List.length_append, List.length_singleton, Array.length_toList]; rfl
    rw [hlen]
    have hb2 : bcells ((xs ++ [byteOf s.size]) ++ s.data.toList) = bcells (xs ++ [byteOf s.size]) ++ Lib.strCells s := by
      unfold bcells
      rw [List.map_append]
      rfl
    rw [hb2]
    exact hown2
  have F := Lib.hid fin
  clear fin hown2 hgrow2 hat2 hown1'
  go_wp2
  go_ret
  exact F.out
end Go.Proofs.YtehkgcmdndehaaaDoor

