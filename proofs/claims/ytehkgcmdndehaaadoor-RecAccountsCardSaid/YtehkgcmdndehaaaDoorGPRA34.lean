/- Part of the proof: merged texts. -/
import Derived.Test.YtehkgcmdndehaaaDoorGPRA18
import Derived.Test.YtehkgcmdndehaaaDoorGPRA33
namespace Go.Proofs.YtehkgcmdndehaaaDoor
set_option linter.unusedSimpArgs false
set_option linter.unusedVariables false
open Go.RowKit

def eqHold (x y : HoldD) : Bool := if x.id = y.id then if x.over = y.over then if x.till = y.till then eqLs eqPart x.parts y.parts else false else false else false
def eqHV (x y : HoldD × Value) : Bool := eqHold x.1 y.1
theorem eqHold_refl (x : HoldD) : eqHold x x = true := by simp [eqHold, eqLs_refl eqPart eqPart_refl]
theorem drewN_below (w : World) (n : Nat) : Below w.heap.size w (w.drewN n) := ⟨rfl, rfl, rfl, Nat.le_refl _, fun _ _ => rfl⟩
theorem quiet_at {P : Program} {f : FuncId} {args : Array Value} {w : World} {n0 n : Nat} {v : Value} (h : Calls P f args (w.drewN (n0 + n)) (DrewPost (w.drewN (n0 + n)) v)) : Calls P f args (w.drewN (n0 + n)) fun e w'' => e = .returned v ∧ ∃ m, w'' = w.drewN (n0 + m) :=
  h.mono fun _ _ ⟨he, m, hm⟩ => ⟨he, n + m, by rw [hm]; simp [Nat.add_assoc]⟩
set_option maxHeartbeats 1600000 in
set_option maxRecDepth 100000 in
theorem ref_sameHolds (v1 v2 : Value) (l1 l2 : List (HoldD × Value)) (w : World) (h1 : RdHolds w v1 l1) (h2 : RdHolds w v2 l2) (hl1 : l1.length ≤ 100000) (hp1 : ∀ h ∈ l1, h.1.parts.length ≤ 100000) :
    Calls Tryd.prog 38 #[v1, v2] w (DrewPost w (.bool (eqLs eqHV l1 l2))) := by
  obtain ⟨a1, c1, e1⟩ := h1.1.len
  obtain ⟨a2, c2, e2⟩ := h2.1.len
  rw [List.length_map] at e1 e2
  subst e1 e2
  have H := Lib.hid (And.intro h1 h2)
  clear h1 h2
  have HP := Lib.hid hp1
  clear hp1
  go_enter Tryd.func38, Tryd.ntmps38
  by_cases hl : l1.length = l2.length
  · have hb : ((l1.length : Int) != (l2.length : Int)) = false := by rw [hl]; simp
    have HL := Lib.hid hl
    clear hl
    go_wp2
    go_loopg [5] l1.length (fun g s5 wr => ∃ k : Nat, k + g = l1.length ∧ s5 = .int .i64 k ∧ (∃ n, wr = w.drewN n) ∧ ∀ (i : Nat) (x y : HoldD × Value), i < k → l1[i]? = some x → l2[i]? = some y → eqHV x y = true)
    case atStart => exact ⟨0, by omega, rfl, ⟨0, rfl⟩, fun _ _ _ h => by omega⟩
    case round =>
      obtain ⟨k, hkg, rfl, ⟨n0, rfl⟩, hA⟩ := hrel
      cases gk with
      | zero =>
        have hk : ¬ ((k : Int) < (l1.length : Int)) := by omega
        have F : Hid (eqLs eqHV l1 l2 = true) := Lib.hid (eqLs_all _ _ _ HL.out (fun i x y h1 h2 => hA i x y (by have := (List.getElem?_eq_some_iff.1 h1).1; omega) h1 h2))
        clear hA hkg
        go_wp2
        go_ret
        exact ⟨by rw [F.out]; rfl, n0, rfl⟩
      | succ g =>
        have hk : (k : Int) < (l1.length : Int) := by omega
        have hk1 : k < l1.length := by omega
        have hk2 : k < l2.length := by have := HL.out; omega
        obtain ⟨x, hx⟩ : ∃ x, l1[k]? = some x := ⟨_, List.getElem?_eq_getElem hk1⟩
        obtain ⟨y, hy⟩ : ∃ y, l2[k]? = some y := ⟨_, List.getElem?_eq_getElem hk2⟩
        have HA := Lib.hid (And.intro hkg (And.intro hA (And.intro hx hy)))
        have hpx := HP.out x (List.mem_of_getElem? hx)
        have CP : Hid (∀ n, RdParts (w.drewN n) x.2 x.1.parts ∧ RdParts (w.drewN n) y.2 y.1.parts) := Lib.hid (fun n => ⟨(H.out.1.2 x (List.mem_of_getElem? hx)).below (drewN_below w n), (H.out.2.2 y (List.mem_of_getElem? hy)).below (drewN_below w n)⟩)
        rcases H.out.1.1 with ⟨he, _, _, hv⟩ | ⟨b1, o1, p1, hv, hc, hb1, hi1⟩
        · simp at he; rw [he] at hx; simp at hx
        rcases H.out.2.1 with ⟨he, _, _, hv2⟩ | ⟨b2, o2, p2, hv2, hc2, hb2, hi2⟩
        · simp at he; rw [he] at hy; simp at hy
        simp only [List.length_map, Value.slice.injEq] at hv hv2
        obtain ⟨rfl, _, rfl⟩ := hv
        obtain ⟨rfl, _, rfl⟩ := hv2
        have r1 := (hi1 k _ (by rw [List.getElem?_map, hx]; rfl)).2
        have r2 := (hi2 k _ (by rw [List.getElem?_map, hy]; rfl)).2
        have c0 : w.cell? ⟨b1, o1 + k * 4, none⟩ = some (.int .i64 x.1.id) := r1 0 _ rfl
        have c1 : w.cell? ⟨b1, o1 + k * 4 + 1, none⟩ = some x.2 := r1 1 _ rfl
        have c2 : w.cell? ⟨b1, o1 + k * 4 + 2, none⟩ = some (.int .i64 x.1.over) := r1 2 _ rfl
        have c3 : w.cell? ⟨b1, o1 + k * 4 + 3, none⟩ = some (.int .i64 x.1.till) := r1 3 _ rfl
        have d0 : w.cell? ⟨b2, o2 + k * 4, none⟩ = some (.int .i64 y.1.id) := r2 0 _ rfl
        have d1 : w.cell? ⟨b2, o2 + k * 4 + 1, none⟩ = some y.2 := r2 1 _ rfl
        have d2 : w.cell? ⟨b2, o2 + k * 4 + 2, none⟩ = some (.int .i64 y.1.over) := r2 2 _ rfl
        have d3 : w.cell? ⟨b2, o2 + k * 4 + 3, none⟩ = some (.int .i64 y.1.till) := r2 3 _ rfl
        clear hi1 hi2 hc hc2 hx hy hkg hA r1 r2
        by_cases h0 : x.1.id = y.1.id
        · by_cases h1 : x.1.over = y.1.over
          · by_cases h2 : x.1.till = y.1.till
            · by_cases h3 : eqLs eqPart x.1.parts y.1.parts = true
              · have ht0 : (x.1.id != y.1.id) = false := by simp [h0]
                have ht1 : (x.1.over != y.1.over) = false := by simp [h1]
                have ht2 : (x.1.till != y.1.till) = false := by simp [h2]
                have HQ : Hid (eqHV x y = true) := Lib.hid (by unfold eqHV eqHold; rw [if_pos h0, if_pos h1, if_pos h2]; exact h3)
                clear h0
                clear h1
                clear h2
                have h3' : (!eqLs eqPart x.1.parts y.1.parts) = false := by rw [h3]; rfl
                clear h3
                go_upto_region 6 with (fail)
                go_quiet ((go_at_call 66; exact quiet_at (ref_sameParts _ _ _ _ _ ((CP.out _).1) ((CP.out _).2) hpx)))
                clear c0 c1 c2 c3 d0 d1 d2 d3
                go_wp2
                go_roundg g
                case measure => omega
                case rel =>
                  refine ⟨k + 1, by have := HA.out.1; omega, by go_num, ⟨n0 + nq, by simp⟩, fun i x' y' hi h1 h2 => ?_⟩
                  by_cases hik : i = k
                  · subst hik
                    rw [HA.out.2.2.1] at h1; rw [HA.out.2.2.2] at h2; cases h1; cases h2; exact HQ.out
                  · exact HA.out.2.1 i x' y' (by omega) h1 h2

              · have ht0 : (x.1.id != y.1.id) = false := by simp [h0]
                have ht1 : (x.1.over != y.1.over) = false := by simp [h1]
                have ht2 : (x.1.till != y.1.till) = false := by simp [h2]
                have HQ : Hid (eqHV x y = false) := Lib.hid (by unfold eqHV eqHold; rw [if_pos h0, if_pos h1, if_pos h2]; simpa using h3)
                clear h0
                clear h1
                clear h2
                have h3' : (!eqLs eqPart x.1.parts y.1.parts) = true := by simpa using h3
                clear h3
                go_upto_region 6 with (fail)
                go_quiet ((go_at_call 66; exact quiet_at (ref_sameParts _ _ _ _ _ ((CP.out _).1) ((CP.out _).2) hpx)))
                clear c0 c1 c2 c3 d0 d1 d2 d3
                go_wp2
                go_ret
                exact ⟨by rw [eqLs_no eqHV k _ _ x y HA.out.2.2.1 HA.out.2.2.2 HQ.out]; rfl, n0 + nq, by simp⟩

            · have ht0 : (x.1.id != y.1.id) = false := by simp [h0]
              have ht1 : (x.1.over != y.1.over) = false := by simp [h1]
              have ht2 : (x.1.till != y.1.till) = true := by simpa using h2
              have HQ : Hid (eqHV x y = false) := Lib.hid (by unfold eqHV eqHold; rw [if_pos h0, if_pos h1, if_neg h2])
              clear h0
              clear h1
              clear h2
              go_upto_region 6 with (fail)
              go_quiet (fail)
              clear c0 c1 c2 c3 d0 d1 d2 d3
              go_wp2
              go_ret
              exact ⟨by rw [eqLs_no eqHV k _ _ x y HA.out.2.2.1 HA.out.2.2.2 HQ.out]; rfl, n0 + nq, by simp⟩

          · have ht0 : (x.1.id != y.1.id) = false := by simp [h0]
            have ht1 : (x.1.over != y.1.over) = true := by simpa using h1
            have HQ : Hid (eqHV x y = false) := Lib.hid (by unfold eqHV eqHold; rw [if_pos h0, if_neg h1])
            clear h0
            clear h1
            go_upto_region 6 with (fail)
            go_quiet (fail)
            clear c0 c1 c2 c3 d0 d1 d2 d3
            go_wp2
            go_ret
            exact ⟨by rw [eqLs_no eqHV k _ _ x y HA.out.2.2.1 HA.out.2.2.2 HQ.out]; rfl, n0 + nq, by simp⟩

        · have ht0 : (x.1.id != y.1.id) = true := by simpa using h0
          have HQ : Hid (eqHV x y = false) := Lib.hid (by unfold eqHV eqHold; rw [if_neg h0])
          clear h0
          go_upto_region 6 with (fail)
          go_quiet (fail)
          clear c0 c1 c2 c3 d0 d1 d2 d3
          go_wp2
          go_ret
          exact ⟨by rw [eqLs_no eqHV k _ _ x y HA.out.2.2.1 HA.out.2.2.2 HQ.out]; rfl, n0 + nq, by simp⟩

  · have hb : ((l1.length : Int) != (l2.length : Int)) = true := by simp; omega
    rw [eqLs_len _ _ _ hl]
    clear hl
    go_wp2
    go_ret
    exact ⟨rfl, 0, rfl⟩
def HoldCells (x : HoldD) (v : Value) : Array Value := #[.int .i64 x.id, v, .int .i64 x.over, .int .i64 x.till]
set_option maxHeartbeats 1600000 in
set_option maxRecDepth 100000 in
theorem rr_sameHold (x y : HoldD) (v1 v2 : Value) (w : World) (h1 : RdParts w v1 x.parts) (h2 : RdParts w v2 y.parts) (hpl : x.parts.length ≤ 100000) :
    Calls Tryd.prog 42 #[.agg (x.cells v1), .agg (y.cells v2)] w (BoolPost w (eqHold x y)) := by
  have H := Lib.hid (And.intro h1 h2)
  clear h1 h2
  go_enter Tryd.func42, Tryd.ntmps42
  go_upto_region 1 with (fail)
  have BW : Hid (Below w.heap.size w ((w.alloc (.cells (x.cells v1) 75)).alloc (.cells (y.cells v2) 75))) := Lib.hid (below_alloc2 _ _ _)
  have hC : ∀ j, ((w.alloc (.cells (x.cells v1) 75)).alloc (.cells (y.cells v2) 75)).cell? ⟨w.heap.size, j, none⟩ = (x.cells v1)[j]? := fun j => by
    rw [World.cell?_alloc_past _ _ _ (by simp)]
    exact World.cell?_alloc_at _ _ _ _ rfl
  have hD : ∀ j, ((w.alloc (.cells (x.cells v1) 75)).alloc (.cells (y.cells v2) 75)).cell? ⟨w.heap.size + 1, j, none⟩ = (y.cells v2)[j]? := fun j => by
    exact World.cell?_alloc_at _ _ _ _ (by simp)
  generalize (w.alloc (.cells (x.cells v1) 75)).alloc (.cells (y.cells v2) 75) = W at *
  have CP : Hid (∀ n, RdParts (W.drewN n) v1 x.parts ∧ RdParts (W.drewN n) v2 y.parts) := Lib.hid (fun n => ⟨(Items.below H.out.1 BW.out).below (drewN_below W n), (Items.below H.out.2 BW.out).below (drewN_below W n)⟩)
  have c0 : W.cell? ⟨w.heap.size, 0, none⟩ = some (.int .i64 x.id) := hC 0
  have c1 : W.cell? ⟨w.heap.size, 1, none⟩ = some v1 := hC 1
  have c2 : W.cell? ⟨w.heap.size, 2, none⟩ = some (.int .i64 x.over) := hC 2
  have c3 : W.cell? ⟨w.heap.size, 3, none⟩ = some (.int .i64 x.till) := hC 3
  have d0 : W.cell? ⟨w.heap.size + 1, 0, none⟩ = some (.int .i64 y.id) := hD 0
  have d1 : W.cell? ⟨w.heap.size + 1, 1, none⟩ = some v2 := hD 1
  have d2 : W.cell? ⟨w.heap.size + 1, 2, none⟩ = some (.int .i64 y.over) := hD 2
  have d3 : W.cell? ⟨w.heap.size + 1, 3, none⟩ = some (.int .i64 y.till) := hD 3
  clear hC hD
  by_cases h0 : x.id = y.id
  · by_cases h1 : x.over = y.over
    · by_cases h2 : x.till = y.till
      · have ht0 : (x.id == y.id) = true := by simp [h0]
        have ht1 : (x.over == y.over) = true := by simp [h1]
        have ht2 : (x.till == y.till) = true := by simp [h2]
        have HQ : Hid (eqHold x y = eqLs eqPart x.parts y.parts) := Lib.hid (by unfold eqHold; rw [if_pos h0, if_pos h1, if_pos h2])
        clear h0
        clear h1
        clear h2
        go_wp2_with (go_at_call 43; refine (sl_sameParts _ _ _ _ _ ((CP.out 0).1) ((CP.out 0).2) hpl).mono ?_; rintro e w1 ⟨rfl, m, rfl⟩)
        go_ret
        exact ⟨by rw [HQ.out]; rfl, BW.out.trans ((drewN_below _ _).mono BW.out.size)⟩

      · have ht0 : (x.id == y.id) = true := by simp [h0]
        have ht1 : (x.over == y.over) = true := by simp [h1]
        have ht2 : (x.till == y.till) = false := by simpa using h2
        have HQ : Hid (eqHold x y = false) := Lib.hid (by unfold eqHold; rw [if_pos h0, if_pos h1, if_neg h2])
        clear h0
        clear h1
        clear h2
        go_wp2
        go_ret
        exact ⟨by rw [HQ.out]; rfl, BW.out⟩

    · have ht0 : (x.id == y.id) = true := by simp [h0]
      have ht1 : (x.over == y.over) = false := by simpa using h1
      have HQ : Hid (eqHold x y = false) := Lib.hid (by unfold eqHold; rw [if_pos h0, if_neg h1])
      clear h0
      clear h1
      go_wp2
      go_ret
      exact ⟨by rw [HQ.out]; rfl, BW.out⟩

  · have ht0 : (x.id == y.id) = false := by simpa using h0
    have HQ : Hid (eqHold x y = false) := Lib.hid (by unfold eqHold; rw [if_neg h0])
    clear h0
    go_wp2
    go_ret
    exact ⟨by rw [HQ.out]; rfl, BW.out⟩

def EFPost (w : World) (b : Bool) (e : Ending) (w' : World) : Prop := e = .returned (.bool b) ∧ Below w.heap.size w w'
set_option maxHeartbeats 1600000 in
set_option maxRecDepth 100000 in
theorem sl_eqFunc (v1 v2 : Value) (l1 l2 : List (HoldD × Value)) (w : World) (h1 : RdHolds w v1 l1) (h2 : RdHolds w v2 l2) (hl1 : l1.length ≤ 100000) (hp1 : ∀ h ∈ l1, h.1.parts.length ≤ 100000) :
    Calls Tryd.prog 45 #[v1, v2, .func (.func 42) #[] #[]] w (EFPost w (eqLs eqHV l1 l2)) := by
  obtain ⟨a1, c1, e1⟩ := h1.1.len
  obtain ⟨a2, c2, e2⟩ := h2.1.len
  rw [List.length_map] at e1 e2
  subst e1 e2
  have H := Lib.hid (And.intro h1 h2)
  clear h1 h2
  have HP := Lib.hid hp1
  clear hp1
  go_enter Tryd.func45, Tryd.ntmps45
  by_cases hl : l1.length = l2.length
  · have hb : ((l1.length : Int) != (l2.length : Int)) = false := by rw [hl]; simp
    have HL := Lib.hid hl
    clear hl
    go_wp2
    go_loopg [17] l1.length (fun g s5 wr => ∃ k : Nat, k + g = l1.length ∧ s5 = .int .i64 k ∧ Below w.heap.size w wr ∧ ∀ (i : Nat) (x y : HoldD × Value), i < k → l1[i]? = some x → l2[i]? = some y → eqHV x y = true)
    case atStart => exact ⟨0, by omega, rfl, Below.refl _ _, fun _ _ _ h => by omega⟩
    case round =>
      obtain ⟨k, hkg, rfl, hbel, hA⟩ := hrel
      obtain ⟨wC, rfl⟩ : ∃ x : World, x = wr := ⟨_, rfl⟩
      have BW := Lib.hid hbel
      clear hbel
      cases gk with
      | zero =>
        have hk : ¬ ((k : Int) < (l1.length : Int)) := by omega
        have F : Hid (eqLs eqHV l1 l2 = true) := Lib.hid (eqLs_all _ _ _ HL.out (fun i x y h1 h2 => hA i x y (by have := (List.getElem?_eq_some_iff.1 h1).1; omega) h1 h2))
        clear hA hkg
        go_wp2
        go_ret
        exact ⟨by rw [F.out]; rfl, BW.out⟩
      | succ g =>
        have hk : (k : Int) < (l1.length : Int) := by omega
        have hk1 : k < l1.length := by omega
        have hk2 : k < l2.length := by have := HL.out; omega
        obtain ⟨x, hx⟩ : ∃ x, l1[k]? = some x := ⟨_, List.getElem?_eq_getElem hk1⟩
        obtain ⟨y, hy⟩ : ∃ y, l2[k]? = some y := ⟨_, List.getElem?_eq_getElem hk2⟩
        have HA := Lib.hid (And.intro hkg (And.intro hA (And.intro hx hy)))
        have hpx := HP.out x (List.mem_of_getElem? hx)
        obtain ⟨xh, xv⟩ := x
        obtain ⟨yh, yv⟩ := y
        obtain ⟨xa, xn, xc, rfl⟩ : ∃ a n c, xv = .slice a n c := by obtain ⟨a, c, h⟩ := (H.out.1.2 (xh, xv) (List.mem_of_getElem? hx)).len; exact ⟨a, _, c, h⟩
        obtain ⟨ya, yn, yc, rfl⟩ : ∃ a n c, yv = .slice a n c := by obtain ⟨a, c, h⟩ := (H.out.2.2 (yh, yv) (List.mem_of_getElem? hy)).len; exact ⟨a, _, c, h⟩
        simp only at hpx
        have RH : Hid (∀ W, Below w.heap.size w W → Calls Tryd.prog 42 #[.agg #[.int .i64 xh.id, .slice xa xn xc, .int .i64 xh.over, .int .i64 xh.till], .agg #[.int .i64 yh.id, .slice ya yn yc, .int .i64 yh.over, .int .i64 yh.till]] W (BoolPost W (eqHold xh yh))) := Lib.hid (fun W hW => rr_sameHold xh yh _ _ W ((H.out.1.below hW).2 (xh, _) (List.mem_of_getElem? hx)) ((H.out.2.below hW).2 (yh, _) (List.mem_of_getElem? hy)) hpx)
        rcases H.out.1.1 with ⟨he, _, _, hv⟩ | ⟨b1, o1, p1, hv, hc, hb1, hi1⟩
        · simp at he; rw [he] at hx; simp at hx
        rcases H.out.2.1 with ⟨he, _, _, hv2⟩ | ⟨b2, o2, p2, hv2, hc2, hb2, hi2⟩
        · simp at he; rw [he] at hy; simp at hy
        simp only [List.length_map, Value.slice.injEq] at hv hv2
        obtain ⟨rfl, _, rfl⟩ := hv
        obtain ⟨rfl, _, rfl⟩ := hv2
        have r1 : ∀ (j : Nat) (u : Value), (xh.cells (.slice xa xn xc)).toList[j]? = some u → wC.cell? ⟨b1, o1 + k * 4 + j, none⟩ = some u := fun j u h => (BW.out.cell (p := ⟨b1, o1 + k * 4 + j, none⟩) hb1).trans ((hi1 k _ (by rw [List.getElem?_map, hx]; rfl)).2 j u h)
        have r2 : ∀ (j : Nat) (u : Value), (yh.cells (.slice ya yn yc)).toList[j]? = some u → wC.cell? ⟨b2, o2 + k * 4 + j, none⟩ = some u := fun j u h => (BW.out.cell (p := ⟨b2, o2 + k * 4 + j, none⟩) hb2).trans ((hi2 k _ (by rw [List.getElem?_map, hy]; rfl)).2 j u h)
        have c0 : wC.cell? ⟨b1, o1 + k * 4, none⟩ = some (.int .i64 xh.id) := r1 0 _ rfl
        have c1 : wC.cell? ⟨b1, o1 + k * 4 + 1, none⟩ = some (.slice xa xn xc) := r1 1 _ rfl
        have c2 : wC.cell? ⟨b1, o1 + k * 4 + 2, none⟩ = some (.int .i64 xh.over) := r1 2 _ rfl
        have c3 : wC.cell? ⟨b1, o1 + k * 4 + 3, none⟩ = some (.int .i64 xh.till) := r1 3 _ rfl
        have d0 : wC.cell? ⟨b2, o2 + k * 4, none⟩ = some (.int .i64 yh.id) := r2 0 _ rfl
        have d1 : wC.cell? ⟨b2, o2 + k * 4 + 1, none⟩ = some (.slice ya yn yc) := r2 1 _ rfl
        have d2 : wC.cell? ⟨b2, o2 + k * 4 + 2, none⟩ = some (.int .i64 yh.over) := r2 2 _ rfl
        have d3 : wC.cell? ⟨b2, o2 + k * 4 + 3, none⟩ = some (.int .i64 yh.till) := r2 3 _ rfl
        have hbc1 : b1 < wC.heap.size := Nat.lt_of_lt_of_le hb1 BW.out.size
        have hbc2 : b2 < wC.heap.size := Nat.lt_of_lt_of_le hb2 BW.out.size
        clear hi1 hi2 hc hc2 hx hy hkg hA r1 r2
        by_cases hq : eqHold xh yh = true
        · have HQ : Hid (eqHV (xh, .slice xa xn xc) (yh, .slice ya yn yc) = true) := Lib.hid (by simpa [eqHV] using hq)
          have hq1 : eqHold xh yh = true := HQ.out
          clear hq
          go_wp2_with (fail)
          refine (RH.out _ (BW.out.trans ((below_alloc2 _ _ _).mono BW.out.size))).mono ?_
          rintro e w1 ⟨rfl, hB⟩
          have FIN : Hid (Below w.heap.size w w1) := Lib.hid ((BW.out.trans ((below_alloc2 _ _ _).mono BW.out.size)).trans (hB.mono (by have := BW.out.size; simp; omega)))
          clear hB c0 c1 c2 c3 d0 d1 d2 d3
          go_wp2
          go_roundg g
          case measure => omega
          case rel =>
            refine ⟨k + 1, by have := HA.out.1; omega, by go_num, FIN.out, fun i x' y' hi h1 h2 => ?_⟩
            by_cases hik : i = k
            · subst hik
              rw [HA.out.2.2.1] at h1; rw [HA.out.2.2.2] at h2; cases h1; cases h2; exact HQ.out
            · exact HA.out.2.1 i x' y' (by omega) h1 h2

        · have HQ : Hid (eqHV (xh, .slice xa xn xc) (yh, .slice ya yn yc) = false) := Lib.hid (by simpa [eqHV] using hq)
          have hq1 : eqHold xh yh = false := HQ.out
          clear hq
          go_wp2_with (fail)
          refine (RH.out _ (BW.out.trans ((below_alloc2 _ _ _).mono BW.out.size))).mono ?_
          rintro e w1 ⟨rfl, hB⟩
          have FIN : Hid (Below w.heap.size w w1) := Lib.hid ((BW.out.trans ((below_alloc2 _ _ _).mono BW.out.size)).trans (hB.mono (by have := BW.out.size; simp; omega)))
          clear hB c0 c1 c2 c3 d0 d1 d2 d3
          go_wp2
          go_ret
          exact ⟨by rw [eqLs_no eqHV k _ _ _ _ HA.out.2.2.1 HA.out.2.2.2 HQ.out]; rfl, FIN.out⟩

  · have hb : ((l1.length : Int) != (l2.length : Int)) = true := by simp; omega
    rw [eqLs_len _ _ _ hl]
    clear hl
    go_wp2
    go_ret
    exact ⟨rfl, Below.refl _ _⟩
/-- Are two accounts the same? In the program's order, and in the document's. -/
def eqAccR (a b : AccD) : Bool :=
  if a.name.toList = b.name.toList then if a.key.toList = b.key.toList then if eqPl a.plan b.plan = true then if a.term = b.term then if a.frm = b.frm then if a.till = b.till then if eqLs eqLot a.lots b.lots = true then if a.next = b.next then if a.over = b.over then if eqLs eqHold a.holds b.holds = true then eqLs eqEnt a.window b.window else false else false else false else false else false else false else false else false else false else false
def eqAccF (a b : AccD) : Bool :=
  if a.name.toList = b.name.toList then if a.key.toList = b.key.toList then if eqPl a.plan b.plan = true then if a.term = b.term then if a.frm = b.frm then if a.till = b.till then if a.next = b.next then if a.over = b.over then if eqLs eqLot a.lots b.lots = true then if eqLs eqHold a.holds b.holds = true then eqLs eqEnt a.window b.window else false else false else false else false else false else false else false else false else false else false
theorem eqAcc_same (a b : AccD) : eqAccR a b = eqAccF a b := by
  unfold eqAccR eqAccF
  by_cases h1 : eqLs eqLot a.lots b.lots = true
  · simp only [if_pos h1]
  · simp only [if_neg h1, ite_self]
theorem eqAcc_refl (a : AccD) : eqAccR a a = true := by
  unfold eqAccR
  rw [if_pos rfl, if_pos rfl, if_pos (eqPl_refl _), if_pos rfl, if_pos rfl, if_pos rfl, if_pos (eqLs_refl _ eqLot_refl _), if_pos rfl, if_pos rfl, if_pos (eqLs_refl _ eqHold_refl _), eqLs_refl _ eqEnt_refl]
theorem eqHV_map : ∀ (xs ys : List (HoldD × Value)), eqLs eqHV xs ys = eqLs eqHold (xs.map (·.1)) (ys.map (·.1))
  | [], [] => rfl
  | [], _ :: _ => rfl
  | _ :: _, [] => rfl
  | x :: xs, y :: ys => by rw [eqLs, List.map_cons, List.map_cons, eqLs, eqHV_map xs ys]; rfl
theorem ldm_plan (ρ : Operand → Value) (dst : Option Tmp) (x : Operand) (t : TypeId) (pos : String) (after : Array Edge) (guard : Option (Nat × Bool)) (w : World) (h : okAt 10 (ρ x) w = true) :
    (execOp ρ { dst, op := .load 26 x, type := t, pos, after, guard }).run Tryd.prog w = .ok (.value (.agg (ptrAt 10 (ρ x) w))) w :=
  run_ex_loadAt ρ dst x t pos after guard w _ 10 _ Tryd.underlying26 rfl (by kernel_rfl) h
@[local go_sem] theorem isRow_drewN2 (w : World) (m b o n : Nat) : isRow (w.drewN m) b o n = isRow w b o n := rfl
@[local go_sem] theorem rowOf_drewN2 (w : World) (m b o n : Nat) : rowOf (w.drewN m) b o n = rowOf w b o n := rfl
attribute [local go_sem ↓] ldm_plan
/-- An account that is read. -/
structure AccRd (w : World) (a : AccD) (lv hv wv : Value) (hs : List (HoldD × Value)) : Prop where
  lots : RdLots w lv a.lots
  holds : RdHolds w hv hs
  heq : hs.map (·.1) = a.holds
  win : RdWin w wv a.window
theorem AccRd.below {w w' : World} {a : AccD} {lv hv wv : Value} {hs : List (HoldD × Value)} (h : AccRd w a lv hv wv hs) (hB : Below w.heap.size w w') : AccRd w' a lv hv wv hs :=
  ⟨Items.below h.lots hB, h.holds.below hB, h.heq, Items.below h.win hB⟩
/-- An account of which each list is short. -/
structure Short (a : AccD) : Prop where
  lots : a.lots.length ≤ 100000
  holds : a.holds.length ≤ 100000
  parts : ∀ h ∈ a.holds, h.parts.length ≤ 100000
  win : a.window.length ≤ 100000
end Go.Proofs.YtehkgcmdndehaaaDoor

