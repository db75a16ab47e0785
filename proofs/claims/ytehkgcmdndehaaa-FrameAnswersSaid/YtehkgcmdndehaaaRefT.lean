import Derived.Test.YtehkgcmdndehaaaRefI
import Derived.Deep.DeepCutAuto
import Derived.Deep.CutBlock
import Derived.Deep.DeepMust
namespace Go.Proofs.Ytehkgcmdndehaaa
set_option linter.unusedSimpArgs false
set_option linter.unusedVariables false
open Go.RowKit

theorem str_cut (r : Rd) (h : r.one.2.cut = true ∨ r.one.2.bs.length < r.one.1.toNat) : r.str = ([], ⟨r.one.2.bs, true⟩) := by
  unfold Rd.str
  have e : r.one.2.take r.one.1.toNat = (List.replicate r.one.1.toNat 0, ⟨r.one.2.bs, true⟩) := by rw [Rd.take, if_pos h]
  simp only [e, if_true]
theorem str_ok (r : Rd) (h : r.one.2.cut = false) (h2 : ¬ r.one.2.bs.length < r.one.1.toNat) : r.str = (r.one.2.bs.take r.one.1.toNat, ⟨r.one.2.bs.drop r.one.1.toNat, false⟩) := by
  unfold Rd.str
  have e : r.one.2.take r.one.1.toNat = (r.one.2.bs.take r.one.1.toNat, ⟨r.one.2.bs.drop r.one.1.toNat, false⟩) := by rw [Rd.take, if_neg (by rw [h]; simp only [Bool.false_eq_true, false_or]; exact h2)]
  simp [e]

theorem one_uncut (r : Rd) (h : r.one.2.cut = false) : r.cut = false ∧ 1 ≤ r.bs.length := by
  by_cases hc : r.cut = true ∨ r.bs.length < 1
  · unfold Rd.one Rd.take at h
    rw [if_pos hc] at h
    cases h
  · simp only [not_or, Bool.not_eq_true] at hc
    exact ⟨hc.1, by omega⟩

set_option maxHeartbeats 1600000 in
set_option maxRecDepth 100000 in
theorem ref_text_cut (xb : Nat) (bv : Value) (zs : List UInt8) (r : Rd) (w : World) (h : RefAt w xb bv zs r) (hc : r.one.2.cut = true) :
    Calls Try.prog 59 #[.pointer (some ⟨xb, 0, none⟩)] w (RefPost w xb bv zs (.string (strB r.str.1)) r.str.2) := by
  have e := str_cut r (.inl hc)
  have er : (⟨r.one.2.bs, true⟩ : Rd) = r.one.2 := by
    generalize r.one.2 = q at *
    cases q; cases hc; rfl
  rw [e, er]
  have H := Lib.hid (And.intro h hc)
  clear h hc e er
  go_enter Try.func59, Try.ntmps59
  go_upto_region 2 with (go_at_call 58; refine (ref_u8 xb bv zs r w H.out.1).mono ?_; rintro e w2 ⟨rfl, hat2, hs2⟩)
  have c2 := hat2.c2
  rw [H.out.2] at c2
  simp only [if_true] at c2
  have H2 := Lib.hid (And.intro hat2 hs2)
  clear hat2 hs2
  go_quiet (fail)
  go_wp2
  go_ret
  exact ⟨rfl, H2.out.1.drewN _, H2.out.2.trans (RefS.drewN _ _ _)⟩

set_option maxHeartbeats 1600000 in
set_option maxRecDepth 100000 in
theorem ref_text_few (xb : Nat) (bv : Value) (zs : List UInt8) (r : Rd) (w : World) (h : RefAt w xb bv zs r) (hc : r.one.2.cut = false) (hf : r.one.2.bs.length < r.one.1.toNat) :
    Calls Try.prog 59 #[.pointer (some ⟨xb, 0, none⟩)] w (RefPost w xb bv zs (.string (strB r.str.1)) r.str.2) := by
  have e := str_cut r (.inr hf)
  rw [e]
  have H := Lib.hid (And.intro h (And.intro hc hf))
  have hon := (one_nat r).1
  have hon2 := (one_nat r).2
  clear h hc e hf
  generalize hq : r.one = q at *
  obtain ⟨m', q⟩ := q
  simp only [] at *
  rw [hon] at hq
  generalize m'.toNat = m at *
  clear hon
  go_enter Try.func59, Try.ntmps59
  go_upto_region 2 with (go_at_call 58; refine (ref_u8 xb bv zs r w H.out.1).mono ?_; rw [hq]; rintro e w2 ⟨rfl, hat2, hs2⟩)
  have c2 := hat2.c2
  simp only [H.out.2.1, Bool.false_eq_true, if_false] at c2
  obtain ⟨n, hn, c1, hd⟩ := hat2.c1
  have hd := hd H.out.2.1
  obtain ⟨a0, k0, hv⟩ := hat2.reads.len
  have c0 := hat2.c0
  have f2 := hat2.frz 2
  have hl := hat2.len
  have g1 : (zs.length : Int) - (n : Int) < (m : Int) := by
    have h1 := H.out.2.2
    rw [hd, List.length_drop] at h1
    omega
  have H2 := Lib.hid (And.intro hat2.set2 hs2)
  subst hv
  clear hat2 hs2 hd hq
  go_quiet (fail)
  go_wp2
  go_ret
  exact ⟨rfl, H2.out.1.drewN _, (H2.out.2.trans (RefS.set _ _ _ _)).trans (RefS.drewN _ _ _)⟩

set_option maxHeartbeats 1600000 in
set_option maxRecDepth 100000 in
theorem ref_text_ok (xb : Nat) (bv : Value) (zs : List UInt8) (r : Rd) (w : World) (h : RefAt w xb bv zs r) (hc : r.one.2.cut = false) (hf : ¬ r.one.2.bs.length < r.one.1.toNat) :
    Calls Try.prog 59 #[.pointer (some ⟨xb, 0, none⟩)] w (RefPost w xb bv zs (.string (strB r.str.1)) r.str.2) := by
  have e := str_ok r hc hf
  rw [e]
  have hz1 : 1 ≤ zs.length := by
    obtain ⟨n0, hn0, _, hd0⟩ := h.c1
    have h1 := one_uncut r hc
    have h2 := h1.2
    rw [hd0 h1.1, List.length_drop] at h2
    omega
  have H := Lib.hid (And.intro h (And.intro hc hf))
  have hon := (one_nat r).1
  have hon2 := (one_nat r).2
  clear h hc e hf
  generalize hq : r.one = q at *
  obtain ⟨m', q⟩ := q
  simp only [] at *
  rw [hon] at hq
  generalize m'.toNat = m at *
  clear hon
  go_enter Try.func59, Try.ntmps59
  go_upto_region 2 with (go_at_call 58; refine (ref_u8 xb bv zs r w H.out.1).mono ?_; rw [hq]; rintro e w2 ⟨rfl, hat2, hs2⟩)
  have c2 := hat2.c2
  simp only [H.out.2.1, Bool.false_eq_true, if_false] at c2
  obtain ⟨n, hn, c1, hd⟩ := hat2.c1
  have hd := hd H.out.2.1
  have c0 := hat2.c0
  have f1 := hat2.frz 1
  have hl := hat2.len
  have hfit : m ≤ zs.length - n := by
    have h1 := H.out.2.2
    rw [hd, List.length_drop] at h1
    omega
  have g1 : ¬ (zs.length : Int) - (n : Int) < (m : Int) := by omega
  have hL1 := Lib.hid (fun k => (hat2.drewN k).set1 H.out.2.1 (n + m) (by omega))
  have HS2 := Lib.hid hs2
  rcases hat2.reads with ⟨_, he⟩ | ⟨b, off, cap, rfl, hlc, hbb, hxs⟩
  · rw [he] at hz1; simp at hz1
  have hbx : b ≠ xb := fun e => hat2.apart (by rw [e]; rfl)
  have hncap : n ≤ cap := by omega
  have hQ : q.bs.length = zs.length - n := by rw [hd, List.length_drop]
  have hlm : (q.bs.take m).length = m := by rw [List.length_take]; omega
  have hdm : q.bs.drop m = zs.drop (n + m) := by rw [hd, List.drop_drop]
  have HDM := Lib.hid hdm
  have g2 : ¬ (cap : Int) < (n : Int) := by omega
  by_cases hcn : cap = n
  · have hm0 : m = 0 := by omega
    have HM0 := Lib.hid hm0
    have hq0 : q.bs.take m = [] := by rw [hm0]; rfl
    have hr : Reads w2 (.slice (some ⟨b, off, none⟩) 0 0) (q.bs.take m) := by rw [hq0]; exact .inr ⟨b, off, 0, rfl, Nat.le_refl _, hbb, fun i x hi => by simp at hi⟩
    have hconv : ∀ k, (convert 28 9 (.slice (some ⟨b, off, none⟩) 0 0)).run Try.prog (w2.drewN k) = .ok (.string (strB (q.bs.take m))) (w2.drewN k) := fun k => run_string_of 28 9 5 Try.underlying28 Try.underlying5 Try.underlying9 (show Reads (w2.drewN k) _ _ from hr)
    clear hr hxs hat2 hs2 hd hq hQ hlm hdm hq0
    go_quiet (fail)
    go_wp2
    go_quiet (fail)
    go_wp2
    go_ret
    rw [HDM.out]
    have hl1 := hL1.out
    simp only [HM0.out, Nat.add_zero] at hl1 ⊢
    exact ⟨rfl, hl1 _, (HS2.out.trans (RefS.drewN _ _ _)).trans (RefS.set _ _ _ _)⟩
  · have hr : Reads w2 (.slice (some ⟨b, off + n, none⟩) m (cap - n)) (q.bs.take m) := by
      refine .inr ⟨b, off + n, cap - n, by rw [hlm], by rw [hlm]; omega, hbb, fun i x hi => ?_⟩
      rw [List.getElem?_take] at hi
      split at hi
      · rw [hd, List.getElem?_drop] at hi
        rw [Nat.add_assoc]
        exact hxs _ x hi
      · cases hi
    have hconv : ∀ k, (convert 28 9 (.slice (some ⟨b, off + n, none⟩) m (cap - n))).run Try.prog (w2.drewN k) = .ok (.string (strB (q.bs.take m))) (w2.drewN k) := fun k => run_string_of 28 9 5 Try.underlying28 Try.underlying5 Try.underlying9 (show Reads (w2.drewN k) _ _ from hr)
    clear hr hxs hat2 hs2 hd hq hQ hlm hdm
    go_quiet (fail)
    go_wp2
    go_quiet (fail)
    go_wp2
    go_ret
    rw [HDM.out]
    exact ⟨rfl, hL1.out _, (HS2.out.trans (RefS.drewN _ _ _)).trans (RefS.set _ _ _ _)⟩

theorem ref_text (xb : Nat) (bv : Value) (zs : List UInt8) (r : Rd) (w : World) (h : RefAt w xb bv zs r) :
    Calls Try.prog 59 #[.pointer (some ⟨xb, 0, none⟩)] w (RefPost w xb bv zs (.string (strB r.str.1)) r.str.2) := by
  cases hc : r.one.2.cut with
  | true => exact ref_text_cut xb bv zs r w h hc
  | false =>
    by_cases hf : r.one.2.bs.length < r.one.1.toNat
    · exact ref_text_few xb bv zs r w h hc hf
    · exact ref_text_ok xb bv zs r w h hc hf
end Go.Proofs.Ytehkgcmdndehaaa
