/- Part of the proof: merged texts. -/
import Derived.Test.YtehkgcmdndehaaaDoorGPRA06
import Derived.Laws.Bits64b
namespace Go.Proofs.YtehkgcmdndehaaaDoor
set_option linter.unusedSimpArgs false
set_option linter.unusedVariables false
open Go.RowKit

/-- What a reading call that answers a value leaves. -/
def RePost (w : World) (rb : Nat) (v val : Value) (r' : Re) (e : Ending) (w' : World) : Prop :=
  ∃ v', e = .returned val ∧ ReAt w' rb v' r' ∧ Rds w w' rb ∧ v'.ownBlock = v.ownBlock

set_option maxHeartbeats 800000 in
set_option maxRecDepth 100000 in
theorem rrd_one (rb : Nat) (v : Value) (r : Re) (w : World) (h : ReAt w rb v r) (hb : rb < w.heap.size) (hmx : r.bs.length ≤ 1000000000) :
    Calls Tryd.prog 77 #[.pointer (some ⟨rb, 0, none⟩)] w (RePost w rb v (.int .i64 r.one.1) r.one.2) := by
  have H := Lib.hid h
  clear h
  go_enter Tryd.func77, Tryd.ntmps77
  go_wp2_with (go_at_call 88; refine (rrd_take rb 1 v r w H.out hb (by omega) hmx).mono ?_; rintro e w' ⟨bv, v', rfl, hrd, hat, hrs, hap, hob⟩)
  have fin : RePost w rb v (.int .i64 r.one.1) r.one.2 (.returned (.int .i64 r.one.1)) w' := ⟨v', rfl, hat, hrs, hob⟩
  have hone : r.one.1 = ((((r.take 1).1.getD 0 0).toNat : Int)) := rfl
  have hl1 := Re.take_length r 1
  have F := Lib.hid fin
  clear fin hat hrs
  rcases hrd with ⟨rfl, he⟩ | ⟨b, off, cap, rfl, hlc, hbb, hx⟩
  · rw [he] at hl1; cases hl1
  · obtain ⟨x, hx0⟩ : ∃ x, (r.take 1).1[0]? = some x := ⟨_, List.getElem?_eq_getElem (by omega)⟩
    have hc0 : w'.cell? ⟨b, off, none⟩ = some (.int .u8 (x.toNat : Int)) := hx 0 x hx0
    have hv : (((r.take 1).1.getD 0 0).toNat : Int) = (x.toNat : Int) := by simp [List.getD, hx0]
    rw [hv] at hone
    have HV := Lib.hid hone
    have h0l : 0 < (r.take 1).1.length := by omega
    have hlt := x.toNat_lt
    have hwx : IntKind.i64.wrap (x.toNat : Int) = (x.toNat : Int) := IntWalk.i64_in _ (by omega)
    clear hone hv hx0 hx hl1
    go_simp
    go_wp2
    go_ret
    have := F.out
    rw [HV.out] at this ⊢
    exact this

set_option maxHeartbeats 800000 in
set_option maxRecDepth 100000 in
theorem rrd_str (rb : Nat) (v : Value) (r : Re) (w : World) (h : ReAt w rb v r) (hb : rb < w.heap.size) (hmx : r.bs.length ≤ 1000000000) :
    Calls Tryd.prog 76 #[.pointer (some ⟨rb, 0, none⟩)] w (RePost w rb v (.string (strB r.str.1)) r.str.2) := by
  have H := Lib.hid h
  clear h
  go_enter Tryd.func76, Tryd.ntmps76
  go_wp2_with (go_at_call 77; refine (rrd_one rb v r w H.out hb hmx).mono ?_; rintro e w1 ⟨v1, rfl, hat1, hrs1, hob1⟩)
  have hn : r.one.1 = ((r.one.1.toNat : Nat) : Int) := by unfold Re.one; simp
  have hn2 : r.one.1.toNat ≤ 255 := by unfold Re.one; have := ((r.take 1).1.getD 0 0).toNat_lt; simp only [Int.toNat_natCast]; omega
  have hsz := hrs1.size
  have hl1 := Re.one_le r
  have hb1 : rb < w1.heap.size := by omega
  have hs1 : r.str = (if (r.one.2.take r.one.1.toNat).2.err ≠ 0 then [] else (r.one.2.take r.one.1.toNat).1, (r.one.2.take r.one.1.toNat).2) := rfl
  have HS := Lib.hid hs1
  have R1 := Lib.hid (And.intro hat1 hrs1)
  generalize hm : r.one.1.toNat = m at *
  rw [hn]
  clear hn hat1 hrs1 hs1 hm
  go_wp2_with (go_at_call 88; refine (rrd_take rb m v1 r.one.2 w1 R1.out.1 hb1 (by omega) (by omega)).mono ?_; rintro e w2 ⟨bv, v2, rfl, hrd2, hat2, hrs2, hap2, hob2⟩)
  have hconv : (convert 29 9 bv).run Tryd.prog w2 = .ok (.string (strB (r.one.2.take m).1)) w2 := run_string_of 29 9 5 Tryd.underlying29 Tryd.underlying5 Tryd.underlying9 hrd2
  have fin : ReAt w2 rb v2 (r.one.2.take m).2 → RePost w rb v (.string (strB r.str.1)) r.str.2 (.returned (.string (if (r.one.2.take m).2.err ≠ 0 then ⟨#[]⟩ else strB (r.one.2.take m).1))) w2 := by
    intro hat2
    rw [HS.out]
    refine ⟨v2, ?_, hat2, R1.out.2.trans hrs2, hob2.trans hob1⟩
    split <;> rfl
  have hc := hat2.c1
  have F := Lib.hid (fin hat2)
  clear hat2 hrs2 fin hrd2
  by_cases hcut : (r.one.2.take m).2.err = 0
  · have F2 := F.out
    rw [if_neg (by simp [hcut])] at F2
    have HF2 := Lib.hid F2
    have hb0 : ((r.one.2.take m).2.err != 0) = false := by simp [hcut]
    clear hcut F2
    go_simp
    go_wp2
    go_ret
    exact HF2.out
  · have F2 := F.out
    rw [if_pos hcut] at F2
    have HF2 := Lib.hid F2
    have hb0 : ((r.one.2.take m).2.err != 0) = true := by simp [hcut]
    clear hcut F2
    go_simp
    go_wp2
    go_ret
    exact HF2.out

/-- Numbers are read into places of the block ab. -/
structure IntsRe (w w' : World) (rb ab : Nat) (v : Value) (offs : List Nat) (r : Re) : Prop where
  os : w'.os = w.os
  tape : w'.tape = w.tape
  output : w'.output = w.output
  size : w.heap.size ≤ w'.heap.size
  rd : ∃ v', ReAt w' rb v' (Re.ints offs.length r).2 ∧ v'.ownBlock = v.ownBlock
  block : ∀ k, k < w.heap.size → k ≠ rb → k ≠ ab → w'.heap[k]? = w.heap[k]?
  keep : ∀ k o, k < w.heap.size → (k = rb → o ≠ 0 ∧ o ≠ 1) → (k = ab → o ∉ offs) → w'.cell? ⟨k, o, none⟩ = w.cell? ⟨k, o, none⟩
  frz : ∀ k o, k < w.heap.size → w'.frozen? ⟨k, o, none⟩ = w.frozen? ⟨k, o, none⟩
  vals : ∀ i o, offs[i]? = some o → w'.cell? ⟨ab, o, none⟩ = some (.int .i64 ((Re.ints offs.length r).1.getD i 0))

theorem IntsRe.nil {w : World} {rb ab : Nat} {v : Value} {r : Re} (h : ReAt w rb v r) : IntsRe w w rb ab v [] r :=
  ⟨rfl, rfl, rfl, Nat.le_refl _, ⟨v, h, rfl⟩, fun _ _ _ _ => rfl, fun _ _ _ _ _ => rfl, fun _ _ _ => rfl, fun i o h => by simp at h⟩

theorem Reads.set_re {w : World} {v u : Value} {zs : List UInt8} {a : Addr} (h : Reads w v zs) (hv : v.ownBlock ≠ some a.block) : Reads (w.setCell a u) v zs := by
  rcases h with h | ⟨b, off, cap, rfl, hc, hb, hx⟩
  · exact .inl h
  · exact .inr ⟨b, off, cap, rfl, hc, by simpa [World.setCell] using hb, fun i x hi => (cell_set_ne (fun e => hv (by rw [e]; rfl))).trans (hx i x hi)⟩
theorem ReAt.set {w : World} {rb : Nat} {v u : Value} {r : Re} {a : Addr} (h : ReAt w rb v r) (h0 : (⟨rb, 0, none⟩ : Addr) ≠ a) (h1 : (⟨rb, 1, none⟩ : Addr) ≠ a) (hv : v.ownBlock ≠ some a.block) : ReAt (w.setCell a u) rb v r :=
  ⟨(cell_set_ne h0.symm).trans h.c0, (cell_set_ne h1.symm).trans h.c1, by simpa using h.f0, by simpa using h.f1, h.reads.set_re hv, h.apart⟩

theorem ints_step_re {w wr w1 : World} {rb ab k o : Nat} {v v1 : Value} {u : Value} {offs : List Nat} {r : Re} (h : IntsRe w wr rb ab v (offs.take k) r) (ho : offs[k]? = some o) (hnd : offs.Nodup)
    (hrb : rb < w.heap.size) (hab : ab < w.heap.size) (h2 : ab = rb → ∀ o ∈ offs, o ≠ 0 ∧ o ≠ 1) (hva : v.ownBlock ≠ some ab)
    (hrs : Rds wr w1 rb) (hat : ReAt w1 rb v1 (Re.ints k r).2.int.2) (hv1 : v1.ownBlock = v.ownBlock) (hc : w1.cell? ⟨ab, o, none⟩ = some u) :
    IntsRe w (w1.setCell ⟨ab, o, none⟩ (.int .i64 (Re.ints k r).2.int.1)) rb ab v (offs.take (k + 1)) r := by
  have hk : k < offs.length := (List.getElem?_eq_some_iff.1 ho).1
  have hmem : o ∈ offs := List.mem_of_getElem? ho
  have et : offs.take (k + 1) = offs.take k ++ [o] := by rw [List.take_add_one, ho]; rfl
  have hlk : (offs.take k).length = k := by rw [List.length_take]; omega
  have hl1 : (offs.take (k + 1)).length = k + 1 := by rw [List.length_take]; omega
  have hsz := h.size
  have hsz1 := hrs.size
  have hor : ab = rb → o ≠ 0 ∧ o ≠ 1 := fun e => h2 e o hmem
  have ha0 : (⟨ab, o, none⟩ : Addr) ≠ ⟨rb, 0, none⟩ := fun e => by cases e; exact (hor rfl).1 rfl
  have ha1 : (⟨ab, o, none⟩ : Addr) ≠ ⟨rb, 1, none⟩ := fun e => by cases e; exact (hor rfl).2 rfl
  have hw1 : ∀ k' o', k' < w.heap.size → (k' = rb → o' ≠ 0 ∧ o' ≠ 1) → w1.cell? ⟨k', o', none⟩ = wr.cell? ⟨k', o', none⟩ := by
    intro k' o' hk' hr
    by_cases e : k' = rb
    · subst e; exact hrs.row o' (hr rfl).1 (hr rfl).2
    · exact hrs.cell (a := ⟨k', o', none⟩) (by show k' < _; omega) e
  have hf1 : ∀ k' o', k' < w.heap.size → w1.frozen? ⟨k', o', none⟩ = wr.frozen? ⟨k', o', none⟩ := by
    intro k' o' hk'
    by_cases e : k' = rb
    · subst e; exact hrs.frz o'
    · exact hrs.frozen (a := ⟨k', o', none⟩) (by show k' < _; omega) e
  have hn := Re.ints_snoc k r
  have hvals := h.vals
  rw [hlk] at hvals
  have hll := Re.ints_length k r
  refine ⟨hrs.os.trans h.os, hrs.tape.trans h.tape, hrs.output.trans h.output, by simp [World.setCell]; omega, ⟨v1, ?_, hv1⟩, fun k' hk' hr ha => ?_, fun k' o' hk' hr ha => ?_, fun k' o' hk' => ?_, fun i o' hi => ?_⟩
  · rw [hl1, hn]
    exact hat.set ha0.symm ha1.symm (by rw [hv1]; exact hva)
  · rw [Below.heap_setCell _ _ _ _ ha, hrs.block k' (by omega) hr, h.block k' hk' hr ha]
  · rw [cell_set_ne (fun e => ?_), hw1 k' o' hk' hr, h.keep k' o' hk' hr (fun e hm => ha e (by rw [et]; exact List.mem_append_left _ hm))]
    cases e
    exact ha rfl (by rw [et]; simp)
  · simp only [World.frozen?_setCell]
    rw [hf1 k' o' hk', h.frz k' o' hk']
  · rw [hl1, hn]
    by_cases hik : i = k
    · subst hik
      rw [List.getElem?_take, if_pos (by omega), ho] at hi
      cases hi
      rw [cell_set_same hc]
      simp [List.getD, hll]
    · have hil : i < k := by
        have := (List.getElem?_eq_some_iff.1 hi).1
        omega
      rw [List.getElem?_take, if_pos (by omega)] at hi
      have hne : o' ≠ o := by
        rintro rfl
        exact hik ((List.getElem?_inj (by omega) hnd).1 (hi.trans ho.symm))
      rw [cell_set_ne (fun e => by cases e; exact hne rfl), hw1 ab o' hab (fun e => h2 e o' (List.mem_of_getElem? hi)), hvals i o' (by rw [List.getElem?_take, if_pos hil]; exact hi)]
      simp only [List.getD]
      rw [List.getElem?_append_left (by omega)]

def IntsRePost (w : World) (rb ab : Nat) (v : Value) (offs : List Nat) (r : Re) (e : Ending) (w' : World) : Prop := e = .returned (.tuple #[]) ∧ IntsRe w w' rb ab v offs r

theorem decInt_wrap_re (zs : List UInt8) : decInt zs = wrap64 (decNat zs) := IntWalk.i64_left _

theorem or_byte_re (a b : Nat) (ha : a < 72057594037927936) (hb : b < 256) : bits .or .u64 (IntKind.u64.wrap ((a : Int) * 256)) (IntKind.u64.wrap (b : Int)) = ((a * 256 + b : Nat) : Int) := by
  have e1 : IntKind.u64.wrap ((a : Int) * 256) = ((a * 256 : Nat) : Int) := by rw [IntKind.wrap_u64]; omega
  have e2 : IntKind.u64.wrap (b : Int) = ((b : Nat) : Int) := by rw [IntKind.wrap_u64]; omega
  rw [e1, e2, bits_or_u64_nat _ _ (by omega) (by omega)]
  congr 1
  have := Nat.shiftLeft_add_eq_or_of_lt (b := b) (i := 8) (by omega) a
  rw [Nat.shiftLeft_eq] at this
  exact this.symm

theorem decNat_step_re (zs : List UInt8) (j : Nat) (x : UInt8) (hx : zs[j]? = some x) : decNat (zs.take (j + 1)) = decNat (zs.take j) * 256 + x.toNat := by
  rw [List.take_add_one, hx]
  exact decNat_snoc _ _

set_option maxHeartbeats 1600000 in
set_option maxRecDepth 100000 in
theorem rrd_ints (rb ab : Nat) (v : Value) (ao : Option Addr) (offs : List Nat) (m c : Nat) (r : Re) (w : World) (hm : m = offs.length) (h : ReAt w rb v r) (hrb : rb < w.heap.size) (hab : ab < w.heap.size) (hmx : r.bs.length ≤ 1000000000)
    (hl : offs.length < 1000) (hnd : offs.Nodup) (h2 : ab = rb → ∀ o ∈ offs, o ≠ 0 ∧ o ≠ 1) (hva : v.ownBlock ≠ some ab)
    (hps : ∀ k o, offs[k]? = some o → ∃ nb, ao = some ⟨nb, 0, none⟩ ∧ nb < w.heap.size ∧ nb ≠ rb ∧ nb ≠ ab ∧ w.cell? ⟨nb, k, none⟩ = some (.pointer (some ⟨ab, o, none⟩)))
    (hcs : ∀ o ∈ offs, ∃ u, w.cell? ⟨ab, o, none⟩ = some u ∧ w.frozen? ⟨ab, o, none⟩ = false) :
    Calls Tryd.prog 78 #[.pointer (some ⟨rb, 0, none⟩), .slice ao m c] w (IntsRePost w rb ab v offs r) := by
  subst hm
  have HP := Lib.hid (And.intro h (And.intro hnd (And.intro h2 (And.intro hps hcs))))
  have HV := Lib.hid hva
  clear h hnd h2 hps hcs hva
  go_enter Tryd.func78, Tryd.ntmps78
  go_wp2
  go_loopg [5, 6, 8, 11] offs.length (fun g s5 s6 s8 s11 wr => ∃ k : Nat, k + g = offs.length ∧ s11 = .int .i64 k ∧ IntsRe w wr rb ab v (offs.take k) r)
  case atStart => exact ⟨0, by omega, rfl, by simpa using IntsRe.nil HP.out.1⟩
  case round =>
    obtain ⟨k, hkg, rfl, hat⟩ := hrel
    cases gk with
    | zero =>
      have hk : ¬ ((k : Int) < (offs.length : Int)) := by omega
      have F := Lib.hid hat
      clear hat
      go_wp2
      go_end0
      refine ⟨rfl, ?_⟩
      have := F.out
      rwa [List.take_of_length_le (by omega)] at this
    | succ g =>
      obtain ⟨o, ho⟩ : ∃ o, offs[k]? = some o := ⟨_, List.getElem?_eq_getElem (by omega)⟩
      have hk : (k : Int) < (offs.length : Int) := by omega
      have hmem : o ∈ offs := List.mem_of_getElem? ho
      obtain ⟨nb, rfl, hnb, hnr, hna, hpc⟩ := HP.out.2.2.2.1 k o ho
      obtain ⟨u, hcu, hcf⟩ := HP.out.2.2.2.2 o hmem
      have hlk : (offs.take k).length = k := by rw [List.length_take]; omega
      obtain ⟨v0, hrd0, hob0⟩ := hat.rd
      rw [hlk] at hrd0
      have hsz := hat.size
      have hpc1 : wr.cell? ⟨nb, k, none⟩ = some (.pointer (some ⟨ab, o, none⟩)) := (hat.keep nb k hnb (fun e => absurd e hnr) (fun e => absurd e hna)).trans hpc
      have hle : (Re.ints k r).2.bs.length ≤ 1000000000 := Nat.le_trans (Re.ints_le k r) hmx
      have HT := Lib.hid (And.intro hat (And.intro ho (And.intro hob0 hrd0)))
      have hcu1 : wr.cell? ⟨ab, o, none⟩ = some u := by
        refine (hat.keep ab o hab (fun e => HP.out.2.2.1 e o hmem) (fun _ hm => ?_)).trans hcu
        obtain ⟨i, hi⟩ := List.getElem?_of_mem hm
        have hi2 := (List.getElem?_eq_some_iff.1 hi).1
        rw [List.getElem?_take, if_pos (by omega)] at hi
        have := (List.getElem?_inj (by omega) HP.out.2.1).1 (hi.trans ho.symm)
        omega
      have hcf1 : wr.frozen? ⟨ab, o, none⟩ = false := (hat.frz ab o hab).trans hcf
      have HC := Lib.hid (And.intro hcu1 hcf1)
      clear hat ho hob0 hrd0 hlk hpc hcu hcf hcu1 hcf1
      have hrbw : rb < wr.heap.size := by omega
      go_wp2_with (go_at_call 88; refine (rrd_take rb 8 v0 (Re.ints k r).2 wr HT.out.2.2.2 hrbw (by omega) hle).mono ?_; rintro e w1 ⟨bv, v1, rfl, hrd, hat1, hrs, hap, hob1⟩)
      have hl8 := Re.take_length (Re.ints k r).2 8
      have H1 := Lib.hid (And.intro hat1 (And.intro hrs hob1))
      clear hat1
      have hdec : (Re.ints k r).2.int.1 = decInt ((Re.ints k r).2.take 8).1 := rfl
      generalize hzs : ((Re.ints k r).2.take 8).1 = zs at *
      have HD := Lib.hid hdec
      clear hdec hzs
      have hwo : ∃ u1, w1.cell? ⟨ab, o, none⟩ = some u1 := by
        by_cases e : ab = rb
        · subst e; exact ⟨u, (hrs.row o (HP.out.2.2.1 rfl o hmem).1 (HP.out.2.2.1 rfl o hmem).2).trans HC.out.1⟩
        · exact ⟨u, (hrs.cell (a := ⟨ab, o, none⟩) (by show ab < _; omega) e).trans HC.out.1⟩
      have hwf : w1.frozen? ⟨ab, o, none⟩ = false := by
        by_cases e : ab = rb
        · subst e; exact (hrs.frz o).trans HC.out.2
        · exact (hrs.frozen (a := ⟨ab, o, none⟩) (by show ab < _; omega) e).trans HC.out.2
      clear hrs hob1
      obtain ⟨u1, hwc⟩ := hwo
      rcases hrd with ⟨rfl, he⟩ | ⟨b, off, cap, rfl, hlc, hbb, hx⟩
      · rw [he] at hl8; cases hl8
      · have HX := Lib.hid hx
        clear hx
        rw [hl8] at hlc
        rw [hl8]
        go_simp
        go_wp2
        go_loopg [6, 8, 18] 8 (fun g2 s6 s8 s18 wy => ∃ j : Nat, j + g2 = 8 ∧ s18 = .int .i64 j ∧ s6 = .int .u64 (decNat (zs.take j)) ∧ wy = w1)
        case atStart => exact ⟨0, by omega, rfl, rfl, rfl⟩
        case round =>
          obtain ⟨j, hjg, rfl, rfl, rfl⟩ := hrel
          cases gk with
          | zero =>
            have hj : ¬ ((j : Int) < 8) := by omega
            go_wp2
            go_roundg g
            case measure => omega
            case rel =>
              refine ⟨k + 1, by omega, by first | rfl | go_num, ?_⟩
              have := ints_step_re HT.out.1 HT.out.2.1 HP.out.2.1 hrb hab HP.out.2.2.1 HV.out H1.out.2.1 H1.out.1 (H1.out.2.2.trans HT.out.2.2.1) hwc
              rw [HD.out, decInt_wrap_re] at this
              have hzz : zs.take j = zs := List.take_of_length_le (by omega)
              rw [hzz]
              exact this
          | succ g2 =>
            have hj : (j : Int) < 8 := by omega
            have hj' : j < 8 := by omega
            obtain ⟨x, hx⟩ : ∃ x, zs[j]? = some x := ⟨_, List.getElem?_eq_getElem (by omega)⟩
            have hcx := HX.out j x hx
            have hst := decNat_step_re zs j x hx
            have hlt := decNat_lt (zs.take j)
            have hxl := x.toNat_lt
            have hlt2 : decNat (zs.take j) < 72057594037927936 := by
              refine Nat.lt_of_lt_of_le hlt (Nat.le_trans (Nat.pow_le_pow_right (by omega) (?_ : _ ≤ 7)) (by decide))
              rw [List.length_take]; omega
            have HO := Lib.hid (or_byte_re _ _ hlt2 hxl)
            have HS := Lib.hid hst
            clear hlt hlt2 hxl hst hx
            go_wp2
            go_roundg g2
            case measure => omega
            case rel =>
              refine ⟨j + 1, by omega, by first | rfl | go_num, ?_, rfl⟩
              rw [HO.out, HS.out]
end Go.Proofs.YtehkgcmdndehaaaDoor

