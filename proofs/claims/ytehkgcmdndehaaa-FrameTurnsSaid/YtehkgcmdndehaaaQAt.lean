import Derived.Test.YtehkgcmdndehaaaPrqD
import Derived.Test.YtehkgcmdndehaaaRdB
import Derived.Test.YtehkgcmdndehaaaReqB
namespace Go.Proofs.Ytehkgcmdndehaaa
set_option linter.unusedSimpArgs false
set_option linter.unusedVariables false
open Go.RowKit
attribute [local irreducible] Rd.ints Rd.str Rd.strs Rd.one

theorem RdAt.mods {w w' : World} {rb : Nat} {v : Value} {r : Rd} {S : Nat → Prop} (h : RdAt w rb v r) (hr : Mods w w' rb S) (h0 : ¬ S 0) (h1 : ¬ S 1) : RdAt w' rb v r :=
  ⟨(hr.row 0 h0).trans h.c0, (hr.row 1 h1).trans h.c1, (hr.frz 0).trans h.f0, (hr.frz 1).trans h.f1, h.reads.mods hr h.apart, h.apart⟩
theorem Mods.of_ints' {a b : World} {rb : Nat} {v : Value} {offs : List Nat} {r : Rd} (h : IntsAt a b rb rb v offs r) (hb : rb < a.heap.size) : Mods a b rb (fun o => o = 0 ∨ o = 1 ∨ o ∈ offs) :=
  ⟨h.os, h.tape, h.output, h.size, fun k hk hr => h.block k hk hr hr, fun o ho => h.keep rb o hb (fun _ => ⟨fun e => ho (.inl e), fun e => ho (.inr (.inl e))⟩) (fun _ hm => ho (.inr (.inr hm))), fun o => h.frz rb o hb⟩

/-- Where the reading of a request stands: sb the result's block, rb the request's. -/
structure QAt (w0 W : World) (sb rb : Nat) (v : Value) (r : Rd) (cs : List Value) : Prop where
  rd : RdAt W rb v r
  len : cs.length = 18
  cells : W.rangeAt rb 2 cs
  frz : ∀ o, W.frozen? ⟨rb, o, none⟩ = false
  lt : rb < W.heap.size
  sl : sb < rb
  res : W.heap[sb]? = some (.cells reqZ0.cells 25 (0, 0))
  below : Below sb w0 W
  fit : r.bs.length ≤ 1000000

theorem QAt.turn {w0 W W' : World} {sb rb : Nat} {v v' : Value} {r r' : Rd} {cs cs' : List Value} {S : Nat → Prop} (h : QAt w0 W sb rb v r cs) (m : Mods W W' rb S) (hrd : RdAt W' rb v' r') (hl : cs'.length = 18) (hc : W'.rangeAt rb 2 cs') (hf : r'.bs.length ≤ 1000000) : QAt w0 W' sb rb v' r' cs' :=
  ⟨hrd, hl, hc, fun o => (m.frz o).trans (h.frz o), Nat.lt_of_lt_of_le h.lt m.size, h.sl, (m.block sb (Nat.lt_trans h.sl h.lt) (Nat.ne_of_lt h.sl)).trans h.res,
    h.below.trans (m.below (Nat.le_of_lt h.sl) (Nat.le_of_lt (Nat.lt_trans h.sl h.lt))), hf⟩
theorem QAt.on {w0 W W' : World} {sb rb : Nat} {v : Value} {r : Rd} {cs : List Value} (h : QAt w0 W sb rb v r cs) (hB : Below W.heap.size W W') : QAt w0 W' sb rb v r cs :=
  h.turn (S := fun _ => False) (Mods.of_below hB h.lt) (h.rd.of_below h.lt hB) h.len (fun j u hj => (hB.cell (p := ⟨rb, 2 + j, none⟩) h.lt).trans (h.cells j u hj)) h.fit
theorem QAt.drew {w0 W : World} {sb rb : Nat} {v : Value} {r : Rd} {cs : List Value} (h : QAt w0 W sb rb v r cs) : QAt w0 W.drew sb rb v r cs := h.on (Below.refl _ _).drew
theorem QAt.set {w0 W : World} {sb rb : Nat} {v : Value} {r : Rd} {cs : List Value} (h : QAt w0 W sb rb v r cs) (o : Nat) (u : Value) (ho : 2 ≤ o) (ho2 : o < 20) : QAt w0 (W.setCell ⟨rb, o, none⟩ u) sb rb v r (cs.set (o - 2) u) := by
  have m : Mods W (W.setCell ⟨rb, o, none⟩ u) rb (fun p => p = o) := Mods.of_setCell rfl
  refine h.turn m (h.rd.mods m (by omega) (by omega)) (by rw [List.length_set]; exact h.len) (fun j x hj => ?_) h.fit
  by_cases e : j = o - 2
  · subst e
    rw [List.getElem?_set_self (by rw [h.len]; omega)] at hj
    cases hj
    obtain ⟨y, hy⟩ : ∃ y, cs[o - 2]? = some y := ⟨_, List.getElem?_eq_getElem (by rw [h.len]; omega)⟩
    have := h.cells _ y hy
    rw [show 2 + (o - 2) = o by omega] at this ⊢
    exact cell_set_same this
  · rw [List.getElem?_set_ne (fun h => e h.symm)] at hj
    rw [m.row (2 + j) (by omega)]
    exact h.cells j x hj
theorem QAt.cellAt {w0 W : World} {sb rb : Nat} {v : Value} {r : Rd} {cs : List Value} (h : QAt w0 W sb rb v r cs) (o : Nat) (ho : 2 ≤ o) (ho2 : o < 20) : ∃ u, W.cell? ⟨rb, o, none⟩ = some u := by
  obtain ⟨y, hy⟩ : ∃ y, cs[o - 2]? = some y := ⟨_, List.getElem?_eq_getElem (by rw [h.len]; omega)⟩
  have := h.cells _ y hy
  rw [show 2 + (o - 2) = o by omega] at this
  exact ⟨y, this⟩

def QPost (w0 W : World) (sb rb : Nat) (val : Value) (r' : Rd) (cs : List Value) (e : Ending) (w' : World) : Prop := ∃ v', e = .returned val ∧ QAt w0 w' sb rb v' r' cs ∧ Mods W w' rb (fun _ => True)
theorem q_one {w0 W : World} {sb rb : Nat} {v : Value} {r : Rd} {cs : List Value} (h : QAt w0 W sb rb v r cs) : Calls Try.prog 45 #[.pointer (some ⟨rb, 0, none⟩)] W (QPost w0 W sb rb (.int .i64 r.one.1) r.one.2 cs) := by
  refine (frd_one rb v r W h.rd h.lt (by have := h.fit; omega)).mono ?_
  rintro e w' ⟨v', he, hat, hrs, hob⟩
  exact ⟨v', he, h.turn (S := fun o => o = 0 ∨ o = 1) (Mods.of_rds hrs (.inl rfl) (.inr rfl)) hat h.len (fun j u hj => (hrs.row (2 + j) (by omega) (by omega)).trans (h.cells j u hj)) (Nat.le_trans r.one_le h.fit), Mods.of_rds hrs trivial trivial⟩
theorem q_str {w0 W : World} {sb rb : Nat} {v : Value} {r : Rd} {cs : List Value} (h : QAt w0 W sb rb v r cs) : Calls Try.prog 47 #[.pointer (some ⟨rb, 0, none⟩)] W (QPost w0 W sb rb (.string (strB r.str.1)) r.str.2 cs) := by
  refine (frd_str rb v r W h.rd h.lt (by have := h.fit; omega)).mono ?_
  rintro e w' ⟨v', he, hat, hrs, hob⟩
  exact ⟨v', he, h.turn (S := fun o => o = 0 ∨ o = 1) (Mods.of_rds hrs (.inl rfl) (.inr rfl)) hat h.len (fun j u hj => (hrs.row (2 + j) (by omega) (by omega)).trans (h.cells j u hj)) (Nat.le_trans r.str_le h.fit), Mods.of_rds hrs trivial trivial⟩
/-- Pointers to places of the block rb, in a block that is not rb. -/
def PtrsAt (W : World) (rb : Nat) (offs : List Nat) (ao : Option Addr) : Prop :=
  ∀ k o, offs[k]? = some o → ∃ nb, ao = some ⟨nb, 0, none⟩ ∧ nb < W.heap.size ∧ nb ≠ rb ∧ W.cell? ⟨nb, k, none⟩ = some (.pointer (some ⟨rb, o, none⟩))
theorem PtrsAt.mods {W W' : World} {rb : Nat} {offs : List Nat} {ao : Option Addr} {S : Nat → Prop} (h : PtrsAt W rb offs ao) (m : Mods W W' rb S) : PtrsAt W' rb offs ao := fun k o hk => by
  obtain ⟨nb, h1, h2, h3, h4⟩ := h k o hk
  exact ⟨nb, h1, Nat.lt_of_lt_of_le h2 m.size, h3, (World.cell?_of_block (m.block nb h2 h3)).trans h4⟩
def QPtrs (w0 W : World) (sb rb : Nat) (v : Value) (r : Rd) (cs : List Value) (offs : List Nat) (e : Ending) (w' : World) : Prop :=
  ∃ ao, e = .returned (.slice ao offs.length offs.length) ∧ QAt w0 w' sb rb v r cs ∧ PtrsAt w' rb offs ao
theorem q_ptrs {w0 W w' : World} {sb rb : Nat} {v : Value} {r : Rd} {cs : List Value} {offs : List Nat} {e : Ending} (h : QAt w0 W sb rb v r cs) (hp : PtrsPost W rb offs e w') : QPtrs w0 W sb rb v r cs offs e w' := by
  obtain ⟨ao, he, hB, hP⟩ := hp
  refine ⟨ao, he, h.on hB, fun k o hk => ?_⟩
  obtain ⟨nb, h1, h2, h3, h4⟩ := hP k o hk
  exact ⟨nb, h1, h3, by have := h.lt; omega, h4⟩
theorem q_ints {w0 W : World} {sb rb : Nat} {v : Value} {r : Rd} {cs : List Value} {offs : List Nat} {ao : Option Addr} {m c : Nat} (h : QAt w0 W sb rb v r cs) (hp : PtrsAt W rb offs ao) (hm : m = offs.length) (ho : offs.Nodup ∧ (∀ o ∈ offs, 4 ≤ o ∧ o < 20) ∧ offs.length ≤ 3) :
    Calls Try.prog 46 #[.pointer (some ⟨rb, 0, none⟩), .slice ao m c] W (QPost w0 W sb rb (.tuple #[]) (Rd.ints offs.length r).2 (putAt cs offs (intsV (Rd.ints offs.length r).1))) := by
  refine (frd_ints rb rb v ao offs m c r W hm h.rd h.lt h.lt (by have := h.fit; omega) (by omega) ho.1 (fun _ o hm => by have := ho.2.1 o hm; omega) h.rd.apart (fun k o hk => ?_) (fun o hm => ?_)).mono ?_
  · obtain ⟨nb, h1, h2, h3, h4⟩ := hp k o hk
    exact ⟨nb, h1, h2, h3, h3, h4⟩
  · have := ho.2.1 o hm
    obtain ⟨u, hu⟩ := h.cellAt o (by omega) this.2
    exact ⟨u, hu, h.frz o⟩
  · rintro e w' ⟨he, hi⟩
    obtain ⟨v', hat, hob⟩ := hi.rd
    have hm' := Mods.of_ints' hi h.lt
    refine ⟨v', he, h.turn hm' hat (by rw [putAt_length]; exact h.len) (fun j u hj => ?_) (Nat.le_trans (Rd.ints_le _ r) h.fit), hm'.mono (fun _ _ => trivial)⟩
    by_cases hin : j + 2 ∈ offs
    · obtain ⟨i, hi'⟩ := List.getElem?_of_mem hin
      have h1 := putAt_in offs (intsV (Rd.ints offs.length r).1) cs ho.1 (by simp [intsV, Rd.ints_length]) (fun o hm => by have := ho.2.1 o hm; rw [h.len]; omega) i (j + 2) hi'
      rw [show j + 2 - 2 = j by omega, hj] at h1
      have h2 := hi.vals i (j + 2) hi'
      rw [show 2 + j = j + 2 by omega, h2]
      have hil : i < (Rd.ints offs.length r).1.length := by rw [Rd.ints_length]; exact (List.getElem?_eq_some_iff.1 hi').1
      rw [h1]
      simp [intsV, List.getD, hil]
    · rw [putAt_out offs _ cs j (fun o hm => ⟨fun e => hin (by rw [← e]; exact hm), by have := ho.2.1 o hm; omega⟩)] at hj
      rw [hm'.row (2 + j) (fun h => by rcases h with h | h | h <;> first | omega | exact hin (by rw [show j + 2 = 2 + j by omega]; exact h))]
      exact h.cells j u hj
end Go.Proofs.Ytehkgcmdndehaaa
