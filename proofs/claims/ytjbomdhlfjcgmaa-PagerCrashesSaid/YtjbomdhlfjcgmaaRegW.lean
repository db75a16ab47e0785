/-
  Moves of a walk through a region that draws its order, one operation behind the other, the condition on the world strengthened on the way. No program in sight.
-/
/-
  A drawn region whose LAST operation alone breaks the condition S on the world: S is asked for behind each operation but that one. No program in sight.
-/
import Derived.WalkKit
import Derived.Lib.Hide
import Derived.Deep.RegionHeld3
namespace Go.Proofs.Ytjbomdhlfjcgmaa
set_option linter.unusedSimpArgs false
set_option linter.unusedVariables false
open Go.RowKit

section
variable {P : Program} {ops : Array Oper} {Q : Exit → Act → World → Prop} {md : Region.Mode} {S S2 : World → Prop}
theorem H_weaken (h : ∀ w, S2 w → S w) : ∀ (fuel : Nat) (listed : Array Bool) (a : Act) (w : World), wpAnyH P md ops Q S2 fuel listed a w → wpAnyH P md ops Q S fuel listed a w
  | 0, _, _, _, hh => hh
  | fuel + 1, _, _, _, hh => ⟨hh.1, fun i hi => wpOp_mono (fun a' w' h' => ⟨h _ h'.1, H_weaken h fuel _ a' w' h'.2⟩) (hh.2 i hi)⟩
theorem H_one {i : Nat} {o : Oper} {fuel : Nat} {listed : Array Bool} {a : Act} {w : World} (hr : Region.ready md ops listed = [i]) (ho : ops[i]? = some o)
    (h : ∀ K : Act → World → Prop, Hid (∀ a w, S w → wpAnyH P md ops Q S fuel (listed.setIfInBounds i true) a w → K a w) → if Region.wanted o (yielded ops a.tmps) = true then Oper.wp P o a w K Q else K (a.put o.dst undef) w) :
    wpAnyH P md ops Q S (fuel + 1) listed a w :=
  wpAnyH_all hr (by simp) fun j hj => by
    obtain rfl : j = i := by simpa using hj
    exact wpOp_step ho (fun K' hK => h K' (Lib.hid fun a w hS hW => hK a w ⟨hS, hW⟩))
/-- What an operation reads in the world at hand is untouched by another one's result that it does not look at. -/
theorem reads_put {oi oj : Oper} {v u : Value} {a : Act} {w : World} (hap : oi.apart ops oj = true) (hsi : ∀ cs b, oi.op ≠ .select cs b) (hy : YieldsIf P ops (fun w' => w' = w) oi v a) : YieldsIf P ops (fun w' => w' = w) oi v (a.put oj.dst u) := by
  obtain ⟨h1, h2, h3⟩ := Oper.apart_spec hap
  exact hy.of_same (execOp_put oi hsi a oj.dst u h3) (wanted_put oi a oj.dst u h3)
theorem reads_put' {oi oj : Oper} {v u : Value} {a : Act} {w : World} (hap : oi.apart ops oj = true) (hsj : ∀ cs b, oj.op ≠ .select cs b) (hy : YieldsIf P ops (fun w' => w' = w) oj v a) : YieldsIf P ops (fun w' => w' = w) oj v (a.put oi.dst u) := by
  obtain ⟨h1, h2, h3⟩ := Oper.apart_spec hap
  exact hy.of_same (execOp_put oj hsj a oi.dst u h1) (wanted_put oj a oi.dst u h1)
/-- Two reads that may come up, in either order. -/
theorem H_two {i j : Nat} {oi oj : Oper} {vi vj : Value} {fuel : Nat} {l : Array Bool} {a : Act} {w : World} (hs : Region.noSelect ops = true) (hi : ops[i]? = some oi) (hj : ops[j]? = some oj) (hij : i ≠ j) (hap : oi.apart ops oj = true)
    (yi : YieldsIf P ops (fun w' => w' = w) oi vi a) (yj : YieldsIf P ops (fun w' => w' = w) oj vj a) (hS : S w)
    (r0 : Region.ready md ops l = [i, j]) (ri : Region.ready md ops (l.setIfInBounds i true) = [j]) (rj : Region.ready md ops (l.setIfInBounds j true) = [i])
    (h : wpAnyH P md ops Q S fuel ((l.setIfInBounds i true).setIfInBounds j true) ((a.put oi.dst vi).put oj.dst vj) w) : wpAnyH P md ops Q S (fuel + 2) l a w := by
  have sel := Region.noSelect_spec hs
  obtain ⟨h1, h2, h3⟩ := Oper.apart_spec hap
  refine wpAnyH_all r0 (by simp) fun x hx => ?_
  simp only [List.mem_cons, List.not_mem_nil, or_false] at hx
  rcases hx with rfl | rfl
  · refine yi.wpOp hi rfl ⟨hS, wpAnyH_all ri (by simp) fun y hy => ?_⟩
    simp only [List.mem_cons, List.not_mem_nil, or_false] at hy
    subst hy
    exact (reads_put' hap (fun cs b => sel _ oj cs b hj) yj).wpOp hj rfl ⟨hS, h⟩
  · refine yj.wpOp hj rfl ⟨hS, wpAnyH_all rj (by simp) fun y hy => ?_⟩
    simp only [List.mem_cons, List.not_mem_nil, or_false] at hy
    subst hy
    refine (reads_put hap (fun cs b => sel _ oi cs b hi) yi).wpOp hi rfl ⟨hS, ?_⟩
    rw [Array.setIfInBounds_comm _ _ (Ne.symm hij), ← Act.put_comm a vi vj h2]
    exact h
/-- Three. -/
theorem H_three {i j k : Nat} {oi oj ok : Oper} {vi vj vk : Value} {fuel : Nat} {l : Array Bool} {a : Act} {w : World} (hs : Region.noSelect ops = true) (hi : ops[i]? = some oi) (hj : ops[j]? = some oj) (hk : ops[k]? = some ok) (hij : i ≠ j) (hik : i ≠ k) (hjk : j ≠ k)
    (aij : oi.apart ops oj = true) (aik : oi.apart ops ok = true) (ajk : oj.apart ops ok = true)
    (yi : YieldsIf P ops (fun w' => w' = w) oi vi a) (yj : YieldsIf P ops (fun w' => w' = w) oj vj a) (yk : YieldsIf P ops (fun w' => w' = w) ok vk a) (hS : S w)
    (r0 : Region.ready md ops l = [i, j, k])
    (ri : Region.ready md ops (l.setIfInBounds i true) = [j, k]) (rj : Region.ready md ops (l.setIfInBounds j true) = [i, k]) (rk : Region.ready md ops (l.setIfInBounds k true) = [i, j])
    (rij : Region.ready md ops ((l.setIfInBounds i true).setIfInBounds j true) = [k]) (rik : Region.ready md ops ((l.setIfInBounds i true).setIfInBounds k true) = [j])
    (rji : Region.ready md ops ((l.setIfInBounds j true).setIfInBounds i true) = [k]) (rjk : Region.ready md ops ((l.setIfInBounds j true).setIfInBounds k true) = [i])
    (rki : Region.ready md ops ((l.setIfInBounds k true).setIfInBounds i true) = [j]) (rkj : Region.ready md ops ((l.setIfInBounds k true).setIfInBounds j true) = [i])
    (h : wpAnyH P md ops Q S fuel (((l.setIfInBounds i true).setIfInBounds j true).setIfInBounds k true) (((a.put oi.dst vi).put oj.dst vj).put ok.dst vk) w) : wpAnyH P md ops Q S (fuel + 3) l a w := by
  have sel := Region.noSelect_spec hs
  obtain ⟨_, eij, _⟩ := Oper.apart_spec aij
  obtain ⟨_, eik, _⟩ := Oper.apart_spec aik
  obtain ⟨_, ejk, _⟩ := Oper.apart_spec ajk
  have si := fun cs b => sel _ oi cs b hi
  have sj := fun cs b => sel _ oj cs b hj
  have sk := fun cs b => sel _ ok cs b hk
  refine wpAnyH_all r0 (by simp) fun x hx => ?_
  simp only [List.mem_cons, List.not_mem_nil, or_false] at hx
  rcases hx with rfl | rfl | rfl
  · exact yi.wpOp hi rfl ⟨hS, H_two hs hj hk hjk ajk (reads_put' aij sj yj) (reads_put' aik sk yk) hS ri rij rik h⟩
  · refine yj.wpOp hj rfl ⟨hS, H_two hs hi hk hik aik (reads_put aij si yi) (reads_put' ajk sk yk) hS rj rji rjk ?_⟩
    rw [Array.setIfInBounds_comm _ _ (Ne.symm hij), ← Act.put_comm a vi vj eij]
    exact h
  · refine yk.wpOp hk rfl ⟨hS, H_two hs hi hj hij aij (reads_put aik si yi) (reads_put ajk sj yj) hS rk rki rkj ?_⟩
    rw [Array.setIfInBounds_comm _ _ (Ne.symm hik), Array.setIfInBounds_comm _ _ (Ne.symm hjk), ← Act.put_comm a vi vk eik, ← Act.put_comm (a.put oi.dst vi) vj vk ejk]
    exact h
end
end Go.Proofs.Ytjbomdhlfjcgmaa

namespace Go.Proofs.Ytjbomdhlfjcgmaa
set_option linter.unusedSimpArgs false
set_option linter.unusedVariables false
open Go.RowKit

section
variable {P : Program} {ops : Array Oper} {Q : Exit → Act → World → Prop} {md : Region.Mode} {S S2 : World → Prop} {z : Nat}
/-- S as long as number z is to come. -/
def Yet (z : Nat) (S : World → Prop) (l : Array Bool) (w : World) : Prop := l.getD z true = true ∨ S w
def anyL (P : Program) (md : Region.Mode) (ops : Array Oper) (Q : Exit → Act → World → Prop) (z : Nat) (S : World → Prop) : Nat → Array Bool → Act → World → Prop
  | 0, l, a, w => Region.ready md ops l = [] ∧ Q .normal a w
  | n + 1, l, a, w => (Region.ready md ops l = [] → Q .normal a w) ∧ ∀ i ∈ Region.ready md ops l, wpOp P ops Q i (fun a' w' => Yet z S (l.setIfInBounds i true) w' ∧ anyL P md ops Q z S n (l.setIfInBounds i true) a' w') a w
theorem anyL_any : ∀ (n : Nat) (l : Array Bool) (a : Act) (w : World), anyL P md ops Q z S n l a w → wpAny P md ops Q n l a w
  | 0, _, _, _, h => h
  | n + 1, _, _, _, h => ⟨h.1, fun i hi => wpOp_mono (fun a' w' h' => anyL_any n _ a' w' h'.2) (h.2 i hi)⟩
theorem anyL_first {i : Nat} {oi oz : Oper} {v : Value} (hi : ops[i]? = some oi) (hz : ops[z]? = some oz) (hzi : ∃ e ∈ oz.after, Region.binds md e = true ∧ e.on = i) (hsel : ∀ (j : Nat) (o : Oper) cs b, ops[j]? = some o → o.op ≠ .select cs b)
    (hQ : ∀ c a w, Q (.panic c) (a.put oi.dst v) w → Q (.panic c) a w) (hiz : i ≠ z) :
    ∀ (n : Nat) (l : Array Bool) (a : Act) (w : World),
      (∀ j oj, ops[j]? = some oj → j ≠ i → l.getD j true = false → (∀ e ∈ oj.after, Region.binds md e = true → e.on ≠ i) → oi.apart ops oj = true) →
      l.getD z true = false → i ∈ Region.ready md ops l → YieldsIf P ops S oi v a → S w →
      anyL P md ops Q z S n (l.setIfInBounds i true) (a.put oi.dst v) w → anyL P md ops Q z S (n + 1) l a w := by
  intro n
  induction n with
  | zero =>
    intro l a w _ _ hr hy hS H
    refine ⟨fun h => (by rw [h] at hr; cases hr), fun j hj => ?_⟩
    by_cases hji : j = i
    · subst hji; exact hy.wpOp hi hS ⟨.inr hS, H⟩
    · have := ready_mono hj hji
      rw [H.1] at this
      cases this
  | succ n ih =>
    intro l a w hfree hlz hr hy hS H
    refine ⟨fun h => (by rw [h] at hr; cases hr), fun j hj => ?_⟩
    by_cases hji : j = i
    · subst hji; exact hy.wpOp hi hS ⟨.inr hS, H⟩
    · have h1 := H.2 j (ready_mono hj hji)
      obtain ⟨hjun, oj, hoj, hall⟩ := mem_ready.1 hj
      have hnot : ∀ e ∈ oj.after, Region.binds md e = true → e.on ≠ i := fun e he hb heq => by
        have g1 := hall e he hb
        have g0 := (mem_ready.1 hr).1
        rw [heq] at g1
        rcases Nat.lt_or_ge i l.size with h' | h'
        · simp [h'] at g0 g1; rw [g0] at g1; cases g1
        · simp [Array.getElem?_eq_none h'] at g1
      have hjz : j ≠ z := fun e => by
        subst e
        rw [hz] at hoj
        cases hoj
        obtain ⟨e, he, hb, heq⟩ := hzi
        exact hnot e he hb heq
      have h2 := wpOp_putIf hoj (hfree j oj hoj hji hjun hnot) (fun cs b => hsel i oi cs b hi) (fun cs b => hsel j oj cs b hoj) hQ hy h1
      have hr' : i ∈ Region.ready md ops (l.setIfInBounds j true) := ready_mono hr (Ne.symm hji)
      have hlz' : (l.setIfInBounds j true).getD z true = false := by rw [getD_set_ne true hjz]; exact hlz
      have hfree' : ∀ k ok, ops[k]? = some ok → k ≠ i → (l.setIfInBounds j true).getD k true = false →
          (∀ e ∈ ok.after, Region.binds md e = true → e.on ≠ i) → oi.apart ops ok = true := fun k ok hk hki hun hno => by
        refine hfree k ok hk hki ?_ hno
        by_cases hjk : j = k
        · subst hjk; exact hjun
        · rw [getD_set_ne true hjk] at hun; exact hun
      refine wpOp_mono (fun a' w' h3 => ?_) h2
      have hS' : S w' := by
        rcases h3.2.1 with h4 | h4
        · rw [getD_set_ne true hjz, getD_set_ne true hiz, hlz] at h4; cases h4
        · exact h4
      refine ⟨.inr hS', ih (l.setIfInBounds j true) a' w' hfree' hlz' hr' h3.1 hS' ?_⟩
      rw [Array.setIfInBounds_comm _ _ hji]
      exact h3.2.2
/-- Take number i first. -/
theorem anyL_take {i : Nat} {oi : Oper} {v : Value} {n : Nat} {l : Array Bool} {a : Act} {w : World} (hi : ops[i]? = some oi)
    (hs : Region.noSelect ops = true) (hf : Region.free md ops l i = true) (hr : (Region.ready md ops l).contains i = true)
    (hQ : ∀ c a w, Q (.panic c) (a.put oi.dst v) w → Q (.panic c) a w) (hz : (ops[z]?.any fun o => o.after.any fun e => Region.binds md e && e.on == i) = true) (hiz : (i == z) = false) (hlz : l.getD z true = false) (hy : YieldsIf P ops S oi v a) (hS : S w)
    (h : anyL P md ops Q z S n (l.setIfInBounds i true) (a.put oi.dst v) w) : anyL P md ops Q z S (n + 1) l a w := by
  obtain ⟨oz, h1, h2⟩ : ∃ oz, ops[z]? = some oz ∧ (oz.after.any fun e => Region.binds md e && e.on == i) = true := by
    cases hh : ops[z]? with
    | none => rw [hh] at hz; cases hz
    | some o => rw [hh] at hz; exact ⟨o, rfl, hz⟩
  obtain ⟨e, he, hb⟩ := Array.any_eq_true'.1 h2
  simp only [Bool.and_eq_true, beq_iff_eq] at hb
  exact anyL_first hi h1 ⟨e, he, hb⟩ (Region.noSelect_spec hs) hQ (by simpa using hiz) n l a w (Region.free_spec hi hf) hlz (by simpa using hr) hy hS h
/-- The one that may come up. -/
theorem anyL_one {i : Nat} {o : Oper} {n : Nat} {l : Array Bool} {a : Act} {w : World} (hr : Region.ready md ops l = [i]) (ho : ops[i]? = some o)
    (h : ∀ K : Act → World → Prop, Hid (∀ a w, Yet z S (l.setIfInBounds i true) w → anyL P md ops Q z S n (l.setIfInBounds i true) a w → K a w) → if Region.wanted o (yielded ops a.tmps) = true then Oper.wp P o a w K Q else K (a.put o.dst undef) w) :
    anyL P md ops Q z S (n + 1) l a w :=
  ⟨fun h0 => (by rw [hr] at h0; cases h0), fun j hj => (by
    rw [hr] at hj
    obtain rfl : j = i := by simpa using hj
    exact wpOp_step ho (fun K' hK => h K' (Lib.hid fun a w hS hW => hK a w ⟨hS, hW⟩)))⟩
theorem anyL_done {l : Array Bool} {a : Act} {w : World} (hr : Region.ready md ops l = []) (h : Q .normal a w) : ∀ n, anyL P md ops Q z S n l a w
  | 0 => ⟨hr, h⟩
  | _ + 1 => ⟨fun _ => h, by rw [hr]; simp⟩
theorem wp_region_anyL {id : Nat} {a : Act} {w : World} (z : Nat) (hm : P.follows .mixedOrders = true) (hS : S w.drew)
    (h : S w.drew → anyL P .any ops Q z S ops.size (Array.replicate ops.size false) a w.drew) : (Code.region id ops true).wp P Q a w :=
  wp_region_any hm (anyL_any _ _ _ _ (h hS))
end
end Go.Proofs.Ytjbomdhlfjcgmaa
