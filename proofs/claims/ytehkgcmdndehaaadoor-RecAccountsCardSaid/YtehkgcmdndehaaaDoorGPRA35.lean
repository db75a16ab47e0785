/- Part of the proof: merged texts. -/
import Derived.Test.YtehkgcmdndehaaaDoorGPRA34
namespace Go.Proofs.YtehkgcmdndehaaaDoor
set_option linter.unusedSimpArgs false
set_option linter.unusedVariables false
open Go.RowKit

/-- An account that is not too much. -/
structure FewA (a : AccD) : Prop where
  lots : a.lots.length ≤ 40
  holds : a.holds.length ≤ 40
  win : a.window.length ≤ 40
  sum : a.name.size + a.key.size + a.plan.name.size ≤ 300
  name : a.name.size ≤ 255
  key : a.key.size ≤ 255
  plan : a.plan.name.size ≤ 255
  parts : ∀ h ∈ a.holds, h.parts.length ≤ 40
  ents : ∀ e ∈ a.window, e.ans.stmt.name.size ≤ 255 ∧ 0 ≤ e.ans.err ∧ e.ans.err ≤ 255
/-- An account that memory can hold. -/
structure FitA (a : AccD) : Prop where
  name : a.name.size ≤ 140737488355328
  key : a.key.size ≤ 140737488355328
  plan : a.plan.name.size ≤ 140737488355328
  lots : a.lots.length ≤ 140737488355328
  holds : a.holds.length ≤ 140737488355328
  win : a.window.length ≤ 140737488355328
def FewPost (w : World) (a : AccD) (e : Ending) (w' : World) : Prop := ∃ b, e = .returned (.bool b) ∧ (b = true → FewA a) ∧ Below w.heap.size w w'
theorem fewPost_no {w : World} {a : AccD} {e : Ending} {w' : World} (h : e = .returned (.bool false)) (hB : Below w.heap.size w w') : FewPost w a e w' := ⟨false, h, fun h => absurd h (by decide), hB⟩
set_option maxHeartbeats 4000000 in
set_option maxRecDepth 100000 in
theorem law_few (a : AccD) (al ah aw : Value) (hs : List (HoldD × Value)) (w : World) (ha : AccRd w a al ah aw hs) (hz : FitA a) :
    Calls Tryd.prog 17 #[.agg (a.cells al ah aw)] w (FewPost w a) := by
  obtain ⟨la, lc, e1⟩ := ha.lots.len
  obtain ⟨ha1, hc1, e2⟩ := ha.holds.1.len
  obtain ⟨wa, wc, e3⟩ := ha.win.len
  have ehl : hs.length = a.holds.length := by rw [← ha.heq, List.length_map]
  rw [List.length_map] at e1 e2 e3
  rw [ehl] at e2
  subst e1 e2 e3
  have H := Lib.hid ha
  have EL : Hid (hs.length = a.holds.length ∧ True) := Lib.hid ⟨ehl, trivial⟩
  clear ha ehl
  obtain ⟨z1, z2, z3, z4, z5, z6⟩ := hz
  go_enter Tryd.func17, Tryd.ntmps17
  go_upto_region 1 with (fail)
  have BW : Hid (Below w.heap.size w (w.alloc (.cells (a.cells (.slice la a.lots.length lc) (.slice ha1 a.holds.length hc1) (.slice wa a.window.length wc)) 45)) ∧ True) := Lib.hid ⟨below_alloc _ _, trivial⟩
  have hC : ∀ j, (w.alloc (.cells (a.cells (.slice la a.lots.length lc) (.slice ha1 a.holds.length hc1) (.slice wa a.window.length wc)) 45)).cell? ⟨w.heap.size, j, none⟩ = (a.cells (.slice la a.lots.length lc) (.slice ha1 a.holds.length hc1) (.slice wa a.window.length wc))[j]? := fun j => World.cell?_alloc_at _ _ _ _ rfl
  generalize w.alloc (.cells (a.cells (.slice la a.lots.length lc) (.slice ha1 a.holds.length hc1) (.slice wa a.window.length wc)) 45) = W at *
  have AI : Hid (AccRd W a (.slice la a.lots.length lc) (.slice ha1 a.holds.length hc1) (.slice wa a.window.length wc) hs) := Lib.hid (H.out.below BW.out.1)
  have e_name : W.cell? ⟨w.heap.size, 0, none⟩ = some (.string a.name) := hC 0
  have e_key : W.cell? ⟨w.heap.size, 1, none⟩ = some (.string a.key) := hC 1
  have e_plan : W.cell? ⟨w.heap.size, 2, none⟩ = some (.string a.plan.name) := hC 2
  have e_lots : W.cell? ⟨w.heap.size, 15, none⟩ = some (.slice la a.lots.length lc) := hC 15
  have e_holds : W.cell? ⟨w.heap.size, 18, none⟩ = some (.slice ha1 a.holds.length hc1) := hC 18
  have e_win : W.cell? ⟨w.heap.size, 19, none⟩ = some (.slice wa a.window.length wc) := hC 19
  clear hC
  by_cases q0 : a.lots.length ≤ 40
  · by_cases q1 : a.holds.length ≤ 40
    · by_cases q2 : a.window.length ≤ 40
      · by_cases q3 : a.name.size + a.key.size + a.plan.name.size ≤ 300
        · by_cases q4 : a.name.size ≤ 255
          · by_cases q5 : a.key.size ≤ 255
            · by_cases q6 : a.plan.name.size ≤ 255
              · have g0 : ((a.lots.length : Nat) : Int) ≤ 40 := by omega
                have g1 : ((a.holds.length : Nat) : Int) ≤ 40 := by omega
                have g2 : ((a.window.length : Nat) : Int) ≤ 40 := by omega
                have g3 : (a.name.size : Int) + (a.key.size : Int) + (a.plan.name.size : Int) ≤ 300 := by omega
                have g4 : ((a.name.size : Nat) : Int) ≤ 255 := by omega
                have g5 : ((a.key.size : Nat) : Int) ≤ 255 := by omega
                have g6 : ((a.plan.name.size : Nat) : Int) ≤ 255 := by omega
                have Q := Lib.hid (And.intro q0 (And.intro q1 (And.intro q2 (And.intro q3 (And.intro q4 (And.intro q5 q6))))))
                clear q0 q1 q2 q3 q4 q5 q6
                go_upto_region 4 with (fail)
                clear g0 g1 g2 g3 g4 g5 g6
                go_wp2
                go_loopg [4] a.holds.length (fun g s4 wr => ∃ k : Nat, k + g = a.holds.length ∧ s4 = .int .i64 k ∧ W = wr ∧ ∀ (i : Nat) (x : HoldD), i < k → a.holds[i]? = some x → x.parts.length ≤ 40)
                case atStart => exact ⟨0, by omega, rfl, rfl, fun _ _ h => by omega⟩
                case round =>
                  obtain ⟨k, hkg, rfl, rfl, hA⟩ := hrel
                  cases gk with
                  | succ g =>
                    have hk : (k : Int) < (a.holds.length : Int) := by omega
                    have hk1 : k < a.holds.length := by omega
                    have hkh : k < hs.length := by have := EL.out.1; omega
                    obtain ⟨x, hx⟩ : ∃ x, hs[k]? = some x := ⟨_, List.getElem?_eq_getElem hkh⟩
                    have hxa : a.holds[k]? = some x.1 := by rw [← AI.out.heq, List.getElem?_map, hx]; rfl
                    have HA := Lib.hid (And.intro hkg (And.intro hA hxa))
                    rcases AI.out.holds.1 with ⟨he, _, _, hv⟩ | ⟨b1, o1, p1, hv, hc, hb1, hi1⟩
                    · simp at he; rw [he] at hx; simp at hx
                    obtain ⟨pa, pc, hpv⟩ := (AI.out.holds.2 x (List.mem_of_getElem? hx)).len
                    rw [List.length_map] at hpv
                    rw [List.length_map, EL.out.1] at hv
                    simp only [Value.slice.injEq] at hv
                    obtain ⟨rfl, _, rfl⟩ := hv
                    have c1 : W.cell? ⟨b1, o1 + k * 4 + 1, none⟩ = some (.slice pa x.1.parts.length pc) := by rw [← hpv]; exact (hi1 k _ (by rw [List.getElem?_map, hx]; rfl)).2 1 _ rfl
                    clear hi1 hc hx hkg hA hxa hpv
                    by_cases hp : x.1.parts.length ≤ 40
                    · have hp1 : ((x.1.parts.length : Nat) : Int) ≤ 40 := by omega
                      have HP := Lib.hid hp
                      clear hp
                      go_wp2
                      go_roundg g
                      case measure => omega
                      case rel =>
                        refine ⟨k + 1, by have := HA.out.1; omega, by go_num, rfl, fun i y hi hy => ?_⟩
                        by_cases hik : i = k
                        · subst hik
                          rw [HA.out.2.2] at hy; cases hy; exact HP.out
                        · exact HA.out.2.1 i y (by omega) hy
                    · have hp1 : (40 : Int) < ((x.1.parts.length : Nat) : Int) := by omega
                      clear hp
                      go_wp2
                      go_ret
                      exact fewPost_no rfl BW.out.1
                  | zero =>
                    have hk : ¬ ((k : Int) < (a.holds.length : Int)) := by omega
                    have HH : Hid (∀ h ∈ a.holds, h.parts.length ≤ 40) := Lib.hid (fun h hh => by obtain ⟨i, hi⟩ := List.getElem?_of_mem hh; exact hA i h (by have := (List.getElem?_eq_some_iff.1 hi).1; omega) hi)
                    clear hA hkg
                    go_upto_region 10 with (fail)
                    clear hk
                    go_wp2
                    go_loopg [5] a.window.length (fun g s5 wr => ∃ k : Nat, k + g = a.window.length ∧ s5 = .int .i64 k ∧ W = wr ∧ ∀ (i : Nat) (x : EntryD), i < k → a.window[i]? = some x → x.ans.stmt.name.size ≤ 255 ∧ 0 ≤ x.ans.err ∧ x.ans.err ≤ 255)
                    case atStart => exact ⟨0, by omega, rfl, rfl, fun _ _ h => by omega⟩
                    case round =>
                      obtain ⟨j, hkg, rfl, rfl, hA⟩ := hrel
                      cases gk with
                      | zero =>
                        have hk : ¬ ((j : Int) < (a.window.length : Int)) := by omega
                        have HE : Hid (FewA a) := Lib.hid ⟨Q.out.1, Q.out.2.1, Q.out.2.2.1, Q.out.2.2.2.1, Q.out.2.2.2.2.1, Q.out.2.2.2.2.2.1, Q.out.2.2.2.2.2.2, HH.out, fun h hh => by obtain ⟨i, hi⟩ := List.getElem?_of_mem hh; exact hA i h (by have := (List.getElem?_eq_some_iff.1 hi).1; omega) hi⟩
                        clear hA hkg
                        go_wp2
                        go_ret
                        exact ⟨true, rfl, fun _ => HE.out, BW.out.1⟩
                      | succ g =>
                        have hk : (j : Int) < (a.window.length : Int) := by omega
                        have hk1 : j < a.window.length := by omega
                        obtain ⟨x, hx⟩ : ∃ x, a.window[j]? = some x := ⟨_, List.getElem?_eq_getElem hk1⟩
                        have HA := Lib.hid (And.intro hkg (And.intro hA hx))
                        rcases AI.out.win with ⟨he, _, _, hv⟩ | ⟨b1, o1, p1, hv, hc, hb1, hi1⟩
                        · simp at he; rw [he] at hx; simp at hx
                        rw [List.length_map] at hv
                        simp only [Value.slice.injEq] at hv
                        obtain ⟨rfl, _, rfl⟩ := hv
                        have r1 := (hi1 j _ (by rw [List.getElem?_map, hx]; rfl)).2
                        have c1 : W.cell? ⟨b1, o1 + j * 14 + 1, none⟩ = some (.int .i64 x.ans.err) := r1 1 _ rfl
                        have c5 : W.cell? ⟨b1, o1 + j * 14 + 1 + 4, none⟩ = some (.string x.ans.stmt.name) := r1 5 _ rfl
                        clear hi1 hc hx hkg hA r1
                        by_cases h1 : x.ans.stmt.name.size ≤ 255
                        · have hn1 : ((x.ans.stmt.name.size : Nat) : Int) ≤ 255 := by omega
                          by_cases h2 : x.ans.err < 0
                          · clear h1
                            go_wp2
                            go_ret
                            exact fewPost_no rfl BW.out.1
                          · have h2' : 0 ≤ x.ans.err := by omega
                            by_cases h3 : x.ans.err ≤ 255
                            · have HX := Lib.hid (And.intro h1 (And.intro h2' h3))
                              clear h1 h2
                              go_wp2
                              go_roundg g
                              case measure => omega
                              case rel =>
                                refine ⟨j + 1, by have := HA.out.1; omega, by go_num, rfl, fun i y hi hy => ?_⟩
                                by_cases hik : i = j
                                · subst hik
                                  rw [HA.out.2.2] at hy; cases hy; exact HX.out
                                · exact HA.out.2.1 i y (by omega) hy
                            · have h3' : 255 < x.ans.err := by omega
                              clear h1 h2 h3
                              go_wp2
                              go_ret
                              exact fewPost_no rfl BW.out.1
                        · have hn1 : (255 : Int) < ((x.ans.stmt.name.size : Nat) : Int) := by omega
                          clear h1
                          go_wp2
                          go_ret
                          exact fewPost_no rfl BW.out.1
              · have g6 : (255 : Int) < ((a.plan.name.size : Nat) : Int) := by omega
                have g0 : ((a.lots.length : Nat) : Int) ≤ 40 := by omega
                have g1 : ((a.holds.length : Nat) : Int) ≤ 40 := by omega
                have g2 : ((a.window.length : Nat) : Int) ≤ 40 := by omega
                have g3 : (a.name.size : Int) + (a.key.size : Int) + (a.plan.name.size : Int) ≤ 300 := by omega
                have g4 : ((a.name.size : Nat) : Int) ≤ 255 := by omega
                have g5 : ((a.key.size : Nat) : Int) ≤ 255 := by omega
                clear q0 q1 q2 q3 q4 q5 q6
                skip
                go_wp2
                go_ret
                exact fewPost_no rfl BW.out.1
            · have g5 : (255 : Int) < ((a.key.size : Nat) : Int) := by omega
              have g0 : ((a.lots.length : Nat) : Int) ≤ 40 := by omega
              have g1 : ((a.holds.length : Nat) : Int) ≤ 40 := by omega
              have g2 : ((a.window.length : Nat) : Int) ≤ 40 := by omega
              have g3 : (a.name.size : Int) + (a.key.size : Int) + (a.plan.name.size : Int) ≤ 300 := by omega
              have g4 : ((a.name.size : Nat) : Int) ≤ 255 := by omega
              clear q0 q1 q2 q3 q4 q5
              skip
              go_wp2
              go_ret
              exact fewPost_no rfl BW.out.1
          · have g4 : (255 : Int) < ((a.name.size : Nat) : Int) := by omega
            have g0 : ((a.lots.length : Nat) : Int) ≤ 40 := by omega
            have g1 : ((a.holds.length : Nat) : Int) ≤ 40 := by omega
            have g2 : ((a.window.length : Nat) : Int) ≤ 40 := by omega
            have g3 : (a.name.size : Int) + (a.key.size : Int) + (a.plan.name.size : Int) ≤ 300 := by omega
            clear q0 q1 q2 q3 q4
            skip
            go_wp2
            go_ret
            exact fewPost_no rfl BW.out.1
        · have g3 : (300 : Int) < (a.name.size : Int) + (a.key.size : Int) + (a.plan.name.size : Int) := by omega
          have g0 : ((a.lots.length : Nat) : Int) ≤ 40 := by omega
          have g1 : ((a.holds.length : Nat) : Int) ≤ 40 := by omega
          have g2 : ((a.window.length : Nat) : Int) ≤ 40 := by omega
          clear q0 q1 q2 q3
          skip
          go_wp2
          go_ret
          exact fewPost_no rfl BW.out.1
      · have g2 : (40 : Int) < ((a.window.length : Nat) : Int) := by omega
        have g0 : ((a.lots.length : Nat) : Int) ≤ 40 := by omega
        have g1 : ((a.holds.length : Nat) : Int) ≤ 40 := by omega
        clear q0 q1 q2
        skip
        go_wp2
        go_ret
        exact fewPost_no rfl BW.out.1
    · have g1 : (40 : Int) < ((a.holds.length : Nat) : Int) := by omega
      have g0 : ((a.lots.length : Nat) : Int) ≤ 40 := by omega
      clear q0 q1
      skip
      go_wp2
      go_ret
      exact fewPost_no rfl BW.out.1
  · have g0 : (40 : Int) < ((a.lots.length : Nat) : Int) := by omega
    clear q0
    skip
    go_wp2
    go_ret
    exact fewPost_no rfl BW.out.1
end Go.Proofs.YtehkgcmdndehaaaDoor

