import Derived.Test.YtehkgcmdndehaaaDoorKit
import Derived.Test.YtehkgcmdndehaaaDoorBytes
namespace Go.Proofs.YtehkgcmdndehaaaDoor
set_option linter.unusedSimpArgs false
set_option linter.unusedVariables false
open Go.RowKit

/-- The value v owns the bytes xs (from block base on). -/
def OwnB (w : World) (base : Nat) (v : Value) (xs : List UInt8) : Prop := w.ownsRow base 5 1 v xs.length (bcells xs)

/-- What a call that appends onto its argument leaves. -/
structure Grew (w w' : World) (v v' : Value) : Prop where
  os : w'.os = w.os
  tape : w'.tape = w.tape
  output : w'.output = w.output
  size : w.heap.size ≤ w'.heap.size
  block : ∀ k, k < w.heap.size → v.ownBlock ≠ some k → w'.heap[k]? = w.heap[k]?
  new : v'.ownBlock = v.ownBlock ∨ ∃ k, v'.ownBlock = some k ∧ w.heap.size ≤ k

def GrewPost (w : World) (base : Nat) (v : Value) (zs : List UInt8) (e : Ending) (w' : World) : Prop := ∃ v', e = .returned v' ∧ OwnB w' base v' zs ∧ Grew w w' v v'

theorem Grew.refl (w : World) (v : Value) : Grew w w v v := ⟨rfl, rfl, rfl, Nat.le_refl _, fun _ _ _ => rfl, .inl rfl⟩
theorem Grew.trans {w w1 w2 : World} {v v1 v2 : Value} (h : Grew w w1 v v1) (k : Grew w1 w2 v1 v2) : Grew w w2 v v2 := by
  refine ⟨k.os.trans h.os, k.tape.trans h.tape, k.output.trans h.output, Nat.le_trans h.size k.size, fun j hj hv => ?_, ?_⟩
  · rw [k.block j (Nat.lt_of_lt_of_le hj h.size) ?_, h.block j hj hv]
    intro e
    rcases h.new with h' | ⟨m, h', hm⟩
    · exact hv (h'.symm.trans e)
    · rw [h'] at e; cases e; omega
  · rcases k.new with k' | ⟨m, k', hm⟩
    · rcases h.new with h' | ⟨m, h', hm⟩
      · exact .inl (k'.trans h')
      · exact .inr ⟨m, k'.trans h', hm⟩
    · exact .inr ⟨m, k', Nat.le_trans h.size hm⟩
theorem Grew.cell {w w' : World} {v v' : Value} (h : Grew w w' v v') {a : Addr} (hk : a.block < w.heap.size) (hv : v.ownBlock ≠ some a.block) : w'.cell? a = w.cell? a := World.cell?_of_block (h.block _ hk hv)
theorem Grew.other {w w' : World} {v v' : Value} (h : Grew w w' v v') {k : Nat} (hk : k < w.heap.size) (hv : v.ownBlock ≠ some k) : v'.ownBlock ≠ some k := by
  intro e
  rcases h.new with h' | ⟨m, h', hm⟩
  · exact hv (h'.symm.trans e)
  · rw [h'] at e; cases e; omega
theorem Grew.of_below {w w' : World} {v : Value} (hB : Below w.heap.size w w') : Grew w w' v v := ⟨hB.os, hB.tape, hB.output, hB.size, fun k hk _ => hB.block k hk, .inl rfl⟩
theorem Grew.undrew {w w' : World} {v v' : Value} (h : Grew w.drew w' v v') : Grew w w' v v' := ⟨h.os, h.tape, h.output, h.size, h.block, h.new⟩
theorem Grew.from_below {w w' w'' : World} {v v' : Value} (hB : Below w.heap.size w w') (h : Grew w' w'' v v') : Grew w w'' v v' := (Grew.of_below hB).trans h
theorem Grew.below_new {n : Nat} {w W w1 : World} {v0 v : Value} (h : Grew W w1 v0 v) (hv : v0.ownBlock = none) (hB : Below n w W) (hs : n ≤ W.heap.size) : Below n w w1 :=
  hB.trans ⟨h.os, h.tape, h.output, h.size, fun k hk => h.block k (by omega) (by rw [hv]; simp)⟩
theorem grew_of {w wa w1 : World} {v : Value} {g n cap S : Nat} (ha : Below w.heap.size w wa) (hgrow : wa.grownBy w1 v.ownBlock) (hg : v.ownBlock = some g ∨ g = S) (hS : w.heap.size ≤ S) : Grew w w1 v (.slice (some ⟨g, 0, none⟩) n cap) :=
  ⟨hgrow.os.trans ha.os, hgrow.tape.trans ha.tape, hgrow.output.trans ha.output, Nat.le_trans ha.size hgrow.size, fun k hk hv => (hgrow.block k (Nat.lt_of_lt_of_le hk ha.size) (fun e => hv e.symm)).trans (ha.block k hk),
    by rcases h : v.ownBlock with _ | b
       · rcases hg with hg | hg
         · rw [h] at hg; cases hg
         · exact .inr ⟨g, rfl, by omega⟩
       · rcases hg with hg | hg
         · rw [h] at hg; cases hg; exact .inl rfl
         · exact .inr ⟨g, rfl, by omega⟩⟩
theorem OwnB.of_below {w w' : World} {base : Nat} {v : Value} {xs : List UInt8} (h : OwnB w base v xs) (hB : Below w.heap.size w w') : OwnB w' base v xs :=
  World.ownsRow.kept (row := none) h ⟨hB.os, hB.tape, hB.output, hB.size, fun k hk _ => hB.block k hk⟩ (by cases hv : v.ownBlock <;> simp)
theorem OwnB.nil (w : World) (base : Nat) : OwnB w base (.slice none 0 0) [] := World.ownsRow_nil _ _ _ _

theorem byte_u64 (n : Int) (k : Nat) (hk : k < 8) : byteOf (n % 18446744073709551616 / 2 ^ (8 * k)) = byteOf (n / 2 ^ (8 * k)) := by
  unfold byteOf
  congr 2
  match k, hk with
  | 0, _ => simp only [Nat.mul_zero, Int.pow_zero, Int.ediv_one]; omega
  | 1, _ => simp only [show (2 : Int) ^ (8 * 1) = 256 from rfl]; omega
  | 2, _ => simp only [show (2 : Int) ^ (8 * 2) = 65536 from rfl]; omega
  | 3, _ => simp only [show (2 : Int) ^ (8 * 3) = 16777216 from rfl]; omega
  | 4, _ => simp only [show (2 : Int) ^ (8 * 4) = 4294967296 from rfl]; omega
  | 5, _ => simp only [show (2 : Int) ^ (8 * 5) = 1099511627776 from rfl]; omega
  | 6, _ => simp only [show (2 : Int) ^ (8 * 6) = 281474976710656 from rfl]; omega
  | 7, _ => simp only [show (2 : Int) ^ (8 * 7) = 72057594037927936 from rfl]; omega

set_option maxHeartbeats 1600000 in
set_option maxRecDepth 100000 in
theorem ref_int (base : Nat) (v : Value) (xs : List UInt8) (n : Int) (w : World) (hown : OwnB w base v xs) (hb : base ≤ w.heap.size) (hl : Fits (xs.length + 8)) :
    Calls Tryd.prog 33 #[v, .int .i64 n] w (GrewPost w base v (xs ++ encInt n)) := by
  obtain ⟨i0, hi, hz0, hz1, hz2⟩ := info_parts infoU8
  have HO := Lib.hid hown
  clear hown
  go_enter Tryd.func33, Tryd.ntmps33
  go_wp2
  go_loopg [0, 5] 8 (fun g s0 s5 wr => ∃ j : Nat, j + g = 8 ∧ s5 = .int .i64 ((g : Int) - 1) ∧ OwnB wr base s0 (xs ++ (encInt n).take j) ∧ Grew w wr v s0)
  case atStart => exact ⟨0, by omega, rfl, by simpa using HO.out, Grew.refl _ _⟩
  case round =>
    obtain ⟨j, hjg, e5, hown, hgr⟩ := hrel
    have hsz := hgr.size
    cases gk with
    | zero =>
      subst e5
      have X := Lib.hid (And.intro hown hgr)
      clear hown hgr
      go_wp2
      go_ret
      refine ⟨_, rfl, ?_, X.out.2⟩
      have := X.out.1
      rwa [List.take_of_length_le (by rw [encInt_length]; omega)] at this
    | succ g =>
      obtain rfl : u5 = .int .i64 g := by rw [e5]; congr 1; omega
      have hg8 : g < 8 := by omega
      have w8 : IntKind.i64.wrap (8 * (g : Int)) = 8 * (g : Int) := IntWalk.i64_in _ (by omega)
      have s0 : (0 : Int) ≤ 8 * (g : Int) := by omega
      have s1 : 8 * (g : Int) ≤ 64 := by omega
      have s2 : (8 * (g : Int)).toNat = 8 * g := by omega
      have hfit : Fits ((xs ++ (encInt n).take j).length + 1) := hl.le (by rw [List.length_append, List.length_take, encInt_length]; omega)
      generalize hz : xs ++ (encInt n).take j = zs at *
      have HZ := Lib.hid hz
      have HR := Lib.hid (And.intro hown hgr)
      clear e5 hz hgr
      unfold OwnB at hown
      have hbw : base ≤ wr.heap.size := by omega
      go_wp2_with (at_builtin; refine wpList_append_lies _ rfl (.tmp 10) (.tmp 17) 29 rfl base 5 i0 (.int .u8 0) 1 1 Tryd.underlying29 hi hz0 hz1 hz2 rfl (by decide) u0 zs.length (bcells zs) rfl (hown.alloc _) ⟨wr.heap.size, 0, none⟩ 1 1 (bcells [byteOf (n / 2 ^ (8 * g))]) rfl rfl ?c1 (bcells_oneCell _) (by decide) hfit.max hfit.reach (by simp; omega) (wr.heap.size + 1) (by simp) ?_)
      case c1 =>
        intro j u hj
        match j, hj with
        | 0, hj =>
          have e := byte_u64 n g hg8
          have e2 := wrap_byteOf (IntKind.u64.wrap n / 2 ^ (8 * g))
          rw [show n % 18446744073709551616 = IntKind.u64.wrap n from rfl] at e
          have e4 := byteOf_mod (IntKind.u64.wrap n / 2 ^ (8 * g))
          rw [e] at e4
          simp only [bcells, List.map_cons, List.map_nil, List.getElem?_cons_zero, Option.some.injEq] at hj
          subst hj
          simp [Addr.add, e4]
      intro g' cap w1 hown1 hgrow hg hlt
      have fin : GrewPost w base v (zs ++ [byteOf (n / 2 ^ (8 * g))]) (.returned (.slice (some ⟨g', 0, none⟩) (zs.length + 1) cap)) w1 := by
        refine ⟨_, rfl, by unfold OwnB; simpa [bcells] using hown1, HR.out.2.trans (grew_of (below_alloc wr _) hgrow (hg.imp id (fun h => by omega)) (S := wr.heap.size + 1) (by omega))⟩
      have F := Lib.hid fin
      clear fin hown hown1 hgrow hg
      go_wp2
      go_roundg g
      case measure => omega
      case rel =>
        obtain ⟨v', e, ho, hg⟩ := F.out
        cases e
        refine ⟨j + 1, by omega, by first | rfl | go_num, ?_, hg⟩
        rw [encInt_take n j g (by omega), ← List.append_assoc, HZ.out]
        exact ho
end Go.Proofs.YtehkgcmdndehaaaDoor
