import Derived.Test.YtehkgcmdndehaaaFrm
import Derived.Test.YtehkgcmdndehaaaLawFS
namespace Go.Proofs.Ytehkgcmdndehaaa
set_option linter.unusedSimpArgs false
set_option linter.unusedVariables false
open Go.RowKit

theorem fill_set (k N : Nat) (u z : Value) (h : k < N) : (List.replicate k u ++ List.replicate (N - k) z).set k u = List.replicate (k + 1) u ++ List.replicate (N - (k + 1)) z := by
  rw [List.set_append_right _ _ (by simp), List.length_replicate, Nat.sub_self, show N - k = (N - (k + 1)) + 1 by omega, List.replicate_succ, List.set_cons_zero, List.replicate_succ']
  simp

theorem u8_of {b : Int} (h : (Lit.int .u8 b).wf = true) : ∃ x : UInt8, b = (x.toNat : Int) := by
  have hb := bounds_u8 h
  refine ⟨UInt8.ofNat b.toNat, ?_⟩
  rw [UInt8.toNat_ofNat']
  omega

set_option maxHeartbeats 1600000 in
set_option maxRecDepth 100000 in
theorem frameFrames_walk (a : Int) (ha : (Lit.int .i64 a).wf = true) (b : Int) (hb : (Lit.int .u8 b).wf = true) (w : World) :
    Calls Try.prog 4 #[.int .i64 a, .int .u8 b] w (TrueBelow w) := by
  obtain ⟨i0, hi, hz0, hz1, hz2⟩ := info_parts infoU8
  obtain ⟨x, rfl⟩ := u8_of hb
  obtain ⟨N, hN⟩ : ∃ N : Nat, a % 600 = N := ⟨(a % 600).toNat, by omega⟩
  have hN6 : N < 600 := by omega
  have HA := Lib.hid (And.intro ha hN)
  clear ha hb hN
  go_enter Try.func4, Try.ntmps4
  go_wp2_with fail
  refine (l18_known _).mono ?_
  rintro e w1 ⟨rfl, hB1⟩
  go_wp2_with fail
  refine (l18_within a 600 w1 (by decide) (by decide) HA.out.1).mono ?_
  rintro e w' ⟨rfl, rfl⟩
  rw [HA.out.2]
  go_wp2_with (at_make; refine wpList_make_full _ rfl _ _ 28 rfl w1.heap.size 5 i0 (.int .u8 0) 1 Try.underlying28 hi hz0 hz1 _ _ _ _ N rfl rfl rfl rfl (by rw [hz2]; omega) (by unfold maxLen; omega) (Nat.le_refl _) ?_)
  intro w2 hown hgrow
  have hB12 : Below w1.heap.size w1 w2 := (Below.refl _ _).grown hgrow (Nat.le_refl _) (fun k hk => by cases hk)
  have hown' : w2.ownsRow w1.heap.size 5 1 (.slice (some ⟨w1.heap.size, 0, none⟩) N N) N (List.replicate N (.int .u8 0)) := by
    have := hown; rwa [toList_madeCells_one] at this
  have HO := Lib.hid (And.intro hown' hB12)
  clear hown hown' hgrow hB12
  go_wp2
  go_loopg [6] N (fun g s6 wr => ∃ k : Nat, k + g = N ∧ s6 = .int .i64 k ∧ wr.ownsRow w1.heap.size 5 1 (.slice (some ⟨w1.heap.size, 0, none⟩) N N) N (List.replicate k (.int .u8 (x.toNat : Int)) ++ List.replicate (N - k) (.int .u8 0)) ∧ Below w1.heap.size w1 wr)
  case atStart => exact ⟨0, by omega, rfl, by simpa using HO.out.1, HO.out.2⟩
  case round =>
    obtain ⟨k, hkg, rfl, hown, hB⟩ := hrel
    cases gk with
    | zero =>
      have hk : ¬ ((k : Int) < (N : Int)) := by omega
      have hr : Reads wr (.slice (some ⟨w1.heap.size, 0, none⟩) N N) (List.replicate N x) := by
        have e : List.replicate k (Value.int .u8 (x.toNat : Int)) ++ List.replicate (N - k) (.int .u8 0) = bcells (List.replicate N x) := by
          rw [show k = N by omega]; simp [bcells]
        rw [e] at hown
        exact Reads.of_own (base := w1.heap.size) (by simpa using hown)
      have HR := Lib.hid hr
      have hBB : Below w.heap.size w wr := hB1.trans (hB.mono hB1.size)
      have hsz : w.heap.size ≤ wr.heap.size := hBB.size
      clear hown hr
      by_cases hsmall : N = 0 ∨ 512 < N
      · go_wp2_with fail
        refine (fr_frame_no _ N N wr hsmall).mono ?_
        rintro e w3 ⟨rfl, hB3⟩
        have fin : Below w.heap.size w w3 := hBB.trans (hB3.mono hsz)
        rcases hsmall with h | h
        · have hb1 : ((N : Int) == 0) = true := by rw [beq_iff_eq]; omega
          clear h
          go_wp2
          go_ret
          exact ⟨rfl, fin⟩
        · have hb1 : ((N : Int) == 0) = false := by rw [beq_eq_false_iff_ne]; omega
          have hb2 : (512 : Int) < (N : Int) := by omega
          clear h
          go_wp2
          go_ret
          exact ⟨rfl, fin⟩
      · go_wp2_with fail
        refine (fr_frame_ok _ (List.replicate N x) wr HR.out (by simp; omega) (by simp; omega)).mono ?_
        rintro e w3 ⟨v, rfl, hown3, hB3⟩
        have hL : (frameB (List.replicate N x)).length = N + 2 := by simp [frameB]
        obtain ⟨g, cap, rfl, hg1, hg2⟩ := hown3.form (by omega)
        have hlc : N + 2 ≤ cap := by
          rcases hown3.2 with ⟨h, _⟩ | ⟨g', cap', cur, h, _, _, hn, _⟩
          · cases h
          · cases h; omega
        have f0 : w3.cell? ⟨g, 0, none⟩ = some (.int .u8 ((byteOf ((N : Int) / 256)).toNat : Int)) := hown3.cells (g := g) rfl 0 _ (by simp [bcells, frameB])
        have f1 : w3.cell? ⟨g, 1, none⟩ = some (.int .u8 ((byteOf (N : Int)).toNat : Int)) := hown3.cells (g := g) rfl 1 _ (by simp [bcells, frameB])
        have m0 := byteOf_mod ((N : Int) / 256)
        have m1 := byteOf_mod (N : Int)
        have hr2 : Reads w3 (.slice (some ⟨g, 2, none⟩) N (cap - 2)) (List.replicate N x) := by
          refine .inr ⟨g, 2, cap - 2, by simp, by simp; omega, hg2, fun i y hi => ?_⟩
          have := hown3.cells (g := g) rfl (2 + i) (.int .u8 (y.toNat : Int)) (by
            rw [bcells, List.getElem?_map, frameB, show 2 + i = i + 1 + 1 by omega, List.getElem?_cons_succ, List.getElem?_cons_succ, hi]; rfl)
          rwa [Addr.add_lit, Nat.zero_add] at this
        have hr1 : Reads w3 (.slice (some ⟨w1.heap.size, 0, none⟩) N N) (List.replicate N x) := HR.out.below hB3
        have s1 : ∀ nq, (convert 28 9 (.slice (some ⟨g, 2, none⟩) N (cap - 2))).run Try.prog (w3.drewN nq) = .ok (.string (strB (List.replicate N x))) (w3.drewN nq) := fun nq => run_string_of _ _ _ Try.underlying28 Try.underlying5 Try.underlying9 (show Reads (w3.drewN nq) _ _ from hr2)
        have s2 : ∀ nq, (convert 28 9 (.slice (some ⟨w1.heap.size, 0, none⟩) N N)).run Try.prog (w3.drewN nq) = .ok (.string (strB (List.replicate N x))) (w3.drewN nq) := fun nq => run_string_of _ _ _ Try.underlying28 Try.underlying5 Try.underlying9 (show Reads (w3.drewN nq) _ _ from hr1)
        have fin : Below w.heap.size w w3 := hBB.trans (hB3.mono hsz)
        have FIN := Lib.hid fin
        rw [hL]
        generalize (byteOf ((N : Int) / 256)).toNat = T0 at *
        generalize (byteOf (N : Int)).toNat = T1 at *
        generalize hS : strB (List.replicate N x) = S at *
        have b0 : ((N : Int) == 0) = false := by rw [beq_eq_false_iff_ne]; omega
        have b1 : ¬ (512 : Int) < (N : Int) := by omega
        have b2 : (((T0 : Int) * 256 + (T1 : Int)) == (N : Int)) = true := by rw [beq_iff_eq]; omega
        have b3 : ¬ cap = 2 := by omega
        have b4 : 2 ≤ cap := by omega
        have b5 : T0 ≤ 255 := by omega
        have b6 : T1 ≤ 255 := by omega
        have b7 : (((N + 2 : Nat) : Int) == (N : Int) + 2) = true := by rw [beq_iff_eq]; omega
        clear hown3 hB3 hr2 hr1 fin hL m0 m1 HR hsmall hS hBB hB
        go_wp2
        go_quiet (fail)
        go_wp2
        go_ret
        exact ⟨ret_bool (by simp), below_drewN FIN.out _⟩
    | succ g =>
      have hk : (k : Int) < (N : Int) := by omega
      have hkN : k < N := by omega
      have hst := hown.stored k (.int .u8 (x.toNat : Int))
      have hcell := hown.cellAt k (by omega)
      have hfr := hown.frozenAt k
      obtain ⟨u, hu⟩ : ∃ u, (List.replicate k (Value.int .u8 (x.toNat : Int)) ++ List.replicate (N - k) (.int .u8 0))[k]? = some u := ⟨_, List.getElem?_eq_getElem (by simp; omega)⟩
      rw [hu] at hcell
      rw [fill_set k N _ _ hkN] at hst
      have hB' : Below w1.heap.size w1 (wr.setCell ⟨w1.heap.size, k, none⟩ (.int .u8 (x.toNat : Int))) := hB.setCell (Nat.le_refl _) _
      have S := Lib.hid (And.intro hst.1 hB')
      clear hst hB' hB hown hu
      go_wp2
      go_roundg g
      case measure => omega
      case rel => exact ⟨k + 1, by omega, by first | rfl | go_num, S.out.1, S.out.2⟩
end Go.Proofs.Ytehkgcmdndehaaa
