/- Part of the proof: merged texts. -/
import Derived.Test.YtehkgcmdndehaaaDoorGPRA16
import Derived.Test.YtehkgcmdndehaaaDoorGPRA14
import Derived.Test.YtehkgcmdndehaaaDoorGPRA17
import Derived.Deep.QuietTactic
import Derived.BigQuiet
namespace Go.Proofs.YtehkgcmdndehaaaDoor
set_option linter.unusedSimpArgs false
set_option linter.unusedVariables false
open Go.RowKit

def eqLs {α : Type} (f : α → α → Bool) : List α → List α → Bool
  | [], [] => true
  | x :: xs, y :: ys => f x y && eqLs f xs ys
  | _, _ => false
theorem eqLs_len {α : Type} (f : α → α → Bool) : ∀ (xs ys : List α), xs.length ≠ ys.length → eqLs f xs ys = false
  | [], [], h => absurd rfl h
  | [], _ :: _, _ => rfl
  | _ :: _, [], _ => rfl
  | x :: xs, y :: ys, h => by rw [eqLs, eqLs_len f xs ys (by simpa using h), Bool.and_false]
theorem eqLs_all {α : Type} (f : α → α → Bool) : ∀ (xs ys : List α), xs.length = ys.length → (∀ (i : Nat) (x y : α), xs[i]? = some x → ys[i]? = some y → f x y = true) → eqLs f xs ys = true
  | [], [], _, _ => rfl
  | [], _ :: _, h, _ => by simp at h
  | _ :: _, [], h, _ => by simp at h
  | x :: xs, y :: ys, h, ha => by rw [eqLs, ha 0 x y rfl rfl, eqLs_all f xs ys (by simpa using h) (fun i a b h1 h2 => ha (i + 1) a b (by simpa using h1) (by simpa using h2))]; rfl
theorem eqLs_no {α : Type} (f : α → α → Bool) : ∀ (i : Nat) (xs ys : List α) (x y : α), xs[i]? = some x → ys[i]? = some y → f x y = false → eqLs f xs ys = false
  | 0, a :: xs, b :: ys, x, y, h1, h2, h => by simp at h1 h2; subst h1 h2; rw [eqLs, h, Bool.false_and]
  | i + 1, a :: xs, b :: ys, x, y, h1, h2, h => by rw [eqLs, eqLs_no f i xs ys x y (by simpa using h1) (by simpa using h2) h, Bool.and_false]
  | _, [], _, _, _, h1, _, _ => by simp at h1
  | _, _ :: _, [], _, _, _, h2, _ => by simp at h2
theorem eqLs_refl {α : Type} (f : α → α → Bool) (hf : ∀ x, f x x = true) : ∀ xs, eqLs f xs xs = true
  | [] => rfl
  | x :: xs => by rw [eqLs, hf, eqLs_refl f hf xs]; rfl
theorem quiet_row {P : Program} {C : World → Prop} {K : Act → Prop} {a : Act} {dst : Option Tmp} {x : Operand} {t : TypeId} {pos : String} {after : Array Edge} {guard : Option (Nat × Bool)} (ty : TypeId) (n : Nat) (d : TypeDesc) (cs : Array Value)
    (hu : P.underlying ty = some d) (hd : d.isRow = true) (hi : (P.info? ty).map (·.size) = some n)
    (h : ∀ w, C w → okAt n (a.eval x) w = true ∧ ptrAt n (a.eval x) w = cs) (hk : K (a.put dst (.agg cs))) : Oper.quiet P { dst, op := .load ty x, type := t, pos, after, guard } a C K :=
  ⟨.agg cs, fun w hC => by
    have := run_ex_loadAt (P := P) a.eval dst x t pos after guard w ty n d hu hd hi (h w hC).1
    unfold Oper.quietAt
    rw [this, (h w hC).2]
    exact ⟨rfl, rfl⟩, hk⟩
set_option maxHeartbeats 1600000 in
set_option maxRecDepth 100000 in
theorem ref_sameLots (v1 v2 : Value) (l1 l2 : List LotD) (w : World) (h1 : RdLots w v1 l1) (h2 : RdLots w v2 l2) (hl1 : l1.length ≤ 100000) :
    Calls Tryd.prog 37 #[v1, v2] w (DrewPost w (.bool (eqLs eqLot l1 l2))) := by
  obtain ⟨a1, c1, e1⟩ := h1.len
  obtain ⟨a2, c2, e2⟩ := h2.len
  rw [List.length_map] at e1 e2
  subst e1 e2
  have H := Lib.hid (And.intro h1 h2)
  clear h1 h2
  go_enter Tryd.func37, Tryd.ntmps37
  by_cases hl : l1.length = l2.length
  · have hb : ((l1.length : Int) != (l2.length : Int)) = false := by rw [hl]; simp
    have HL := Lib.hid hl
    clear hl
    go_wp2
    go_loopg [5] l1.length (fun g s5 wr => ∃ k : Nat, k + g = l1.length ∧ s5 = .int .i64 k ∧ (∃ n, wr = w.drewN n) ∧ ∀ (i : Nat) (x y : LotD), i < k → l1[i]? = some x → l2[i]? = some y → eqLot x y = true)
    case atStart => exact ⟨0, by omega, rfl, ⟨0, rfl⟩, fun _ _ _ h => by omega⟩
    case round =>
      obtain ⟨k, hkg, rfl, ⟨nq, rfl⟩, hA⟩ := hrel
      cases gk with
      | zero =>
        have hk : ¬ ((k : Int) < (l1.length : Int)) := by omega
        have F : Hid (eqLs eqLot l1 l2 = true) := Lib.hid (eqLs_all _ _ _ HL.out (fun i x y h1 h2 => hA i x y (by have := (List.getElem?_eq_some_iff.1 h1).1; omega) h1 h2))
        clear hA hkg
        go_wp2
        go_ret
        exact ⟨by rw [F.out]; rfl, nq, rfl⟩
      | succ g =>
        have hk : (k : Int) < (l1.length : Int) := by omega
        have hk1 : k < l1.length := by omega
        have hk2 : k < l2.length := by have := HL.out; omega
        obtain ⟨x, hx⟩ : ∃ x, l1[k]? = some x := ⟨_, List.getElem?_eq_getElem hk1⟩
        obtain ⟨y, hy⟩ : ∃ y, l2[k]? = some y := ⟨_, List.getElem?_eq_getElem hk2⟩
        have HA := Lib.hid (And.intro hkg (And.intro hA (And.intro hx hy)))
        rcases H.out.1 with ⟨he, _, _, hv⟩ | ⟨b1, o1, p1, hv, hc, hb1, hi1⟩
        · simp at he; rw [he] at hx; simp at hx
        rcases H.out.2 with ⟨he, _, _, hv2⟩ | ⟨b2, o2, p2, hv2, hc2, hb2, hi2⟩
        · simp at he; rw [he] at hy; simp at hy
        simp only [List.length_map, Value.slice.injEq] at hv hv2
        obtain ⟨rfl, _, rfl⟩ := hv
        obtain ⟨rfl, _, rfl⟩ := hv2
        obtain ⟨r1a, r1b⟩ := row_mid (n := 9) (w := w) (cs := x.cells) (b := b1) (o := o1 + k * 9) (hi1 k _ (by rw [List.getElem?_map, hx]; rfl)).2 rfl
        obtain ⟨r2a, r2b⟩ := row_mid (n := 9) (w := w) (cs := y.cells) (b := b2) (o := o2 + k * 9) (hi2 k _ (by rw [List.getElem?_map, hy]; rfl)).2 rfl
        have hn := neq_eqLot x y
        clear hi1 hi2 hc hc2 hx hy hkg hA
        by_cases hq : eqLot x y = true
        · have hq2 : (!eqLot x y) = false := by rw [hq]; rfl
          have HQ := Lib.hid hq
          clear hq
          go_upto_region 6 with (fail)
          refine wp_region_quiet_lit (by kernel_rfl) (by kernel_rfl) ?_
          repeat (first
            | quiet_step (fail)
            | (refine BigFrame.wpQuiet_want rfl (fun K hK => ?_); refine quiet_row 72 9 _ x.cells Tryd.underlying72 (by kernel_rfl) (by kernel_rfl) (fun w' hC => by obtain ⟨m, rfl⟩ := hC; exact ⟨r1a, r1b⟩) ?_; go_simp; refine hK _ ?_; clear hK K)
            | (refine BigFrame.wpQuiet_want rfl (fun K hK => ?_); refine quiet_row 72 9 _ y.cells Tryd.underlying72 (by kernel_rfl) (by kernel_rfl) (fun w' hC => by obtain ⟨m, rfl⟩ := hC; exact ⟨r2a, r2b⟩) ?_; go_simp; refine hK _ ?_; clear hK K))
          refine wpQuiet_nil ?_
          intro _ hw'
          obtain ⟨nq2, hw''⟩ := hw'
          subst hw''
          clear r1a r1b r2a r2b hn
          go_wp2
          go_roundg g
          case measure => omega
          case rel =>
            refine ⟨k + 1, by have := HA.out.1; omega, by go_num, ⟨nq + nq2, by simp⟩, fun i x' y' hi h1 h2 => ?_⟩
            by_cases hik : i = k
            · subst hik
              rw [HA.out.2.2.1] at h1; rw [HA.out.2.2.2] at h2; cases h1; cases h2; exact HQ.out
            · exact HA.out.2.1 i x' y' (by omega) h1 h2
        · have hq2 : (!eqLot x y) = true := by simpa using hq
          have HQ : Hid (eqLs eqLot l1 l2 = false) := Lib.hid (eqLs_no _ k _ _ x y HA.out.2.2.1 HA.out.2.2.2 (by simpa using hq))
          clear hq
          go_upto_region 6 with (fail)
          refine wp_region_quiet_lit (by kernel_rfl) (by kernel_rfl) ?_
          repeat (first
            | quiet_step (fail)
            | (refine BigFrame.wpQuiet_want rfl (fun K hK => ?_); refine quiet_row 72 9 _ x.cells Tryd.underlying72 (by kernel_rfl) (by kernel_rfl) (fun w' hC => by obtain ⟨m, rfl⟩ := hC; exact ⟨r1a, r1b⟩) ?_; go_simp; refine hK _ ?_; clear hK K)
            | (refine BigFrame.wpQuiet_want rfl (fun K hK => ?_); refine quiet_row 72 9 _ y.cells Tryd.underlying72 (by kernel_rfl) (by kernel_rfl) (fun w' hC => by obtain ⟨m, rfl⟩ := hC; exact ⟨r2a, r2b⟩) ?_; go_simp; refine hK _ ?_; clear hK K))
          refine wpQuiet_nil ?_
          intro _ hw'
          obtain ⟨nq2, hw''⟩ := hw'
          subst hw''
          clear r1a r1b r2a r2b hn
          go_wp2
          go_ret
          exact ⟨by rw [HQ.out]; rfl, nq + nq2, by simp⟩
  · have hb : ((l1.length : Int) != (l2.length : Int)) = true := by simp; omega
    rw [eqLs_len _ _ _ hl]
    clear hl
    go_wp2
    go_ret
    exact ⟨rfl, 0, rfl⟩
set_option maxHeartbeats 1600000 in
set_option maxRecDepth 100000 in
theorem sl_sameLots (v1 v2 : Value) (l1 l2 : List LotD) (w : World) (h1 : RdLots w v1 l1) (h2 : RdLots w v2 l2) (hl1 : l1.length ≤ 100000) :
    Calls Tryd.prog 44 #[v1, v2] w (DrewPost w (.bool (eqLs eqLot l1 l2))) := by
  obtain ⟨a1, c1, e1⟩ := h1.len
  obtain ⟨a2, c2, e2⟩ := h2.len
  rw [List.length_map] at e1 e2
  subst e1 e2
  have H := Lib.hid (And.intro h1 h2)
  clear h1 h2
  go_enter Tryd.func44, Tryd.ntmps44
  by_cases hl : l1.length = l2.length
  · have hb : ((l1.length : Int) != (l2.length : Int)) = false := by rw [hl]; simp
    have HL := Lib.hid hl
    clear hl
    go_wp2
    go_loopg [13] l1.length (fun g s5 wr => ∃ k : Nat, k + g = l1.length ∧ s5 = .int .i64 k ∧ (∃ n, wr = w.drewN n) ∧ ∀ (i : Nat) (x y : LotD), i < k → l1[i]? = some x → l2[i]? = some y → eqLot x y = true)
    case atStart => exact ⟨0, by omega, rfl, ⟨0, rfl⟩, fun _ _ _ h => by omega⟩
    case round =>
      obtain ⟨k, hkg, rfl, ⟨nq, rfl⟩, hA⟩ := hrel
      cases gk with
      | zero =>
        have hk : ¬ ((k : Int) < (l1.length : Int)) := by omega
        have F : Hid (eqLs eqLot l1 l2 = true) := Lib.hid (eqLs_all _ _ _ HL.out (fun i x y h1 h2 => hA i x y (by have := (List.getElem?_eq_some_iff.1 h1).1; omega) h1 h2))
        clear hA hkg
        go_wp2
        go_ret
        exact ⟨by rw [F.out]; rfl, nq, rfl⟩
      | succ g =>
        have hk : (k : Int) < (l1.length : Int) := by omega
        have hk1 : k < l1.length := by omega
        have hk2 : k < l2.length := by have := HL.out; omega
        obtain ⟨x, hx⟩ : ∃ x, l1[k]? = some x := ⟨_, List.getElem?_eq_getElem hk1⟩
        obtain ⟨y, hy⟩ : ∃ y, l2[k]? = some y := ⟨_, List.getElem?_eq_getElem hk2⟩
        have HA := Lib.hid (And.intro hkg (And.intro hA (And.intro hx hy)))
        rcases H.out.1 with ⟨he, _, _, hv⟩ | ⟨b1, o1, p1, hv, hc, hb1, hi1⟩
        · simp at he; rw [he] at hx; simp at hx
        rcases H.out.2 with ⟨he, _, _, hv2⟩ | ⟨b2, o2, p2, hv2, hc2, hb2, hi2⟩
        · simp at he; rw [he] at hy; simp at hy
        simp only [List.length_map, Value.slice.injEq] at hv hv2
        obtain ⟨rfl, _, rfl⟩ := hv
        obtain ⟨rfl, _, rfl⟩ := hv2
        obtain ⟨r1a, r1b⟩ := row_mid (n := 9) (w := w) (cs := x.cells) (b := b1) (o := o1 + k * 9) (hi1 k _ (by rw [List.getElem?_map, hx]; rfl)).2 rfl
        obtain ⟨r2a, r2b⟩ := row_mid (n := 9) (w := w) (cs := y.cells) (b := b2) (o := o2 + k * 9) (hi2 k _ (by rw [List.getElem?_map, hy]; rfl)).2 rfl
        have hn := neq_eqLot x y
        clear hi1 hi2 hc hc2 hx hy hkg hA
        by_cases hq : eqLot x y = true
        · have hq2 : (!eqLot x y) = false := by rw [hq]; rfl
          have HQ := Lib.hid hq
          clear hq
          go_upto_region 6 with (fail)
          refine wp_region_quiet_lit (by kernel_rfl) (by kernel_rfl) ?_
          repeat (first
            | quiet_step (fail)
            | (refine BigFrame.wpQuiet_want rfl (fun K hK => ?_); refine quiet_row 72 9 _ x.cells Tryd.underlying72 (by kernel_rfl) (by kernel_rfl) (fun w' hC => by obtain ⟨m, rfl⟩ := hC; exact ⟨r1a, r1b⟩) ?_; go_simp; refine hK _ ?_; clear hK K)
            | (refine BigFrame.wpQuiet_want rfl (fun K hK => ?_); refine quiet_row 72 9 _ y.cells Tryd.underlying72 (by kernel_rfl) (by kernel_rfl) (fun w' hC => by obtain ⟨m, rfl⟩ := hC; exact ⟨r2a, r2b⟩) ?_; go_simp; refine hK _ ?_; clear hK K))
          refine wpQuiet_nil ?_
          intro _ hw'
          obtain ⟨nq2, hw''⟩ := hw'
          subst hw''
          clear r1a r1b r2a r2b hn
          go_wp2
          go_roundg g
          case measure => omega
          case rel =>
            refine ⟨k + 1, by have := HA.out.1; omega, by go_num, ⟨nq + nq2, by simp⟩, fun i x' y' hi h1 h2 => ?_⟩
            by_cases hik : i = k
            · subst hik
              rw [HA.out.2.2.1] at h1; rw [HA.out.2.2.2] at h2; cases h1; cases h2; exact HQ.out
            · exact HA.out.2.1 i x' y' (by omega) h1 h2
        · have hq2 : (!eqLot x y) = true := by simpa using hq
          have HQ : Hid (eqLs eqLot l1 l2 = false) := Lib.hid (eqLs_no _ k _ _ x y HA.out.2.2.1 HA.out.2.2.2 (by simpa using hq))
          clear hq
          go_upto_region 6 with (fail)
          refine wp_region_quiet_lit (by kernel_rfl) (by kernel_rfl) ?_
          repeat (first
            | quiet_step (fail)
            | (refine BigFrame.wpQuiet_want rfl (fun K hK => ?_); refine quiet_row 72 9 _ x.cells Tryd.underlying72 (by kernel_rfl) (by kernel_rfl) (fun w' hC => by obtain ⟨m, rfl⟩ := hC; exact ⟨r1a, r1b⟩) ?_; go_simp; refine hK _ ?_; clear hK K)
            | (refine BigFrame.wpQuiet_want rfl (fun K hK => ?_); refine quiet_row 72 9 _ y.cells Tryd.underlying72 (by kernel_rfl) (by kernel_rfl) (fun w' hC => by obtain ⟨m, rfl⟩ := hC; exact ⟨r2a, r2b⟩) ?_; go_simp; refine hK _ ?_; clear hK K))
          refine wpQuiet_nil ?_
          intro _ hw'
          obtain ⟨nq2, hw''⟩ := hw'
          subst hw''
          clear r1a r1b r2a r2b hn
          go_wp2
          go_ret
          exact ⟨by rw [HQ.out]; rfl, nq + nq2, by simp⟩
  · have hb : ((l1.length : Int) != (l2.length : Int)) = true := by simp; omega
    rw [eqLs_len _ _ _ hl]
    clear hl
    go_wp2
    go_ret
    exact ⟨rfl, 0, rfl⟩
set_option maxHeartbeats 1600000 in
set_option maxRecDepth 100000 in
theorem ref_sameParts (v1 v2 : Value) (l1 l2 : List PartD) (w : World) (h1 : RdParts w v1 l1) (h2 : RdParts w v2 l2) (hl1 : l1.length ≤ 100000) :
    Calls Tryd.prog 66 #[v1, v2] w (DrewPost w (.bool (eqLs eqPart l1 l2))) := by
  obtain ⟨a1, c1, e1⟩ := h1.len
  obtain ⟨a2, c2, e2⟩ := h2.len
  rw [List.length_map] at e1 e2
  subst e1 e2
  have H := Lib.hid (And.intro h1 h2)
  clear h1 h2
  go_enter Tryd.func66, Tryd.ntmps66
  by_cases hl : l1.length = l2.length
  · have hb : ((l1.length : Int) != (l2.length : Int)) = false := by rw [hl]; simp
    have HL := Lib.hid hl
    clear hl
    go_wp2
    go_loopg [5] l1.length (fun g s5 wr => ∃ k : Nat, k + g = l1.length ∧ s5 = .int .i64 k ∧ (∃ n, wr = w.drewN n) ∧ ∀ (i : Nat) (x y : PartD), i < k → l1[i]? = some x → l2[i]? = some y → eqPart x y = true)
    case atStart => exact ⟨0, by omega, rfl, ⟨0, rfl⟩, fun _ _ _ h => by omega⟩
    case round =>
      obtain ⟨k, hkg, rfl, ⟨nq, rfl⟩, hA⟩ := hrel
      cases gk with
      | zero =>
        have hk : ¬ ((k : Int) < (l1.length : Int)) := by omega
        have F : Hid (eqLs eqPart l1 l2 = true) := Lib.hid (eqLs_all _ _ _ HL.out (fun i x y h1 h2 => hA i x y (by have := (List.getElem?_eq_some_iff.1 h1).1; omega) h1 h2))
        clear hA hkg
        go_wp2
        go_ret
        exact ⟨by rw [F.out]; rfl, nq, rfl⟩
      | succ g =>
        have hk : (k : Int) < (l1.length : Int) := by omega
        have hk1 : k < l1.length := by omega
        have hk2 : k < l2.length := by have := HL.out; omega
        obtain ⟨x, hx⟩ : ∃ x, l1[k]? = some x := ⟨_, List.getElem?_eq_getElem hk1⟩
        obtain ⟨y, hy⟩ : ∃ y, l2[k]? = some y := ⟨_, List.getElem?_eq_getElem hk2⟩
        have HA := Lib.hid (And.intro hkg (And.intro hA (And.intro hx hy)))
        rcases H.out.1 with ⟨he, _, _, hv⟩ | ⟨b1, o1, p1, hv, hc, hb1, hi1⟩
        · simp at he; rw [he] at hx; simp at hx
        rcases H.out.2 with ⟨he, _, _, hv2⟩ | ⟨b2, o2, p2, hv2, hc2, hb2, hi2⟩
        · simp at he; rw [he] at hy; simp at hy
        simp only [List.length_map, Value.slice.injEq] at hv hv2
        obtain ⟨rfl, _, rfl⟩ := hv
        obtain ⟨rfl, _, rfl⟩ := hv2
        obtain ⟨r1a, r1b⟩ := row_mid (n := 2) (w := w) (cs := x.cells) (b := b1) (o := o1 + k * 2) (hi1 k _ (by rw [List.getElem?_map, hx]; rfl)).2 rfl
        obtain ⟨r2a, r2b⟩ := row_mid (n := 2) (w := w) (cs := y.cells) (b := b2) (o := o2 + k * 2) (hi2 k _ (by rw [List.getElem?_map, hy]; rfl)).2 rfl
        have hn := neq_eqPart x y
        clear hi1 hi2 hc hc2 hx hy hkg hA
        by_cases hq : eqPart x y = true
        · have hq2 : (!eqPart x y) = false := by rw [hq]; rfl
          have HQ := Lib.hid hq
          clear hq
          go_upto_region 6 with (fail)
          refine wp_region_quiet_lit (by kernel_rfl) (by kernel_rfl) ?_
          repeat (first
            | quiet_step (fail)
            | (refine BigFrame.wpQuiet_want rfl (fun K hK => ?_); refine quiet_row 86 2 _ x.cells Tryd.underlying86 (by kernel_rfl) (by kernel_rfl) (fun w' hC => by obtain ⟨m, rfl⟩ := hC; exact ⟨r1a, r1b⟩) ?_; go_simp; refine hK _ ?_; clear hK K)
            | (refine BigFrame.wpQuiet_want rfl (fun K hK => ?_); refine quiet_row 86 2 _ y.cells Tryd.underlying86 (by kernel_rfl) (by kernel_rfl) (fun w' hC => by obtain ⟨m, rfl⟩ := hC; exact ⟨r2a, r2b⟩) ?_; go_simp; refine hK _ ?_; clear hK K))
          refine wpQuiet_nil ?_
          intro _ hw'
          obtain ⟨nq2, hw''⟩ := hw'
          subst hw''
          clear r1a r1b r2a r2b hn
          go_wp2
          go_roundg g
          case measure => omega
          case rel =>
            refine ⟨k + 1, by have := HA.out.1; omega, by go_num, ⟨nq + nq2, by simp⟩, fun i x' y' hi h1 h2 => ?_⟩
            by_cases hik : i = k
            · subst hik
              rw [HA.out.2.2.1] at h1; rw [HA.out.2.2.2] at h2; cases h1; cases h2; exact HQ.out
            · exact HA.out.2.1 i x' y' (by omega) h1 h2
        · have hq2 : (!eqPart x y) = true := by simpa using hq
          have HQ : Hid (eqLs eqPart l1 l2 = false) := Lib.hid (eqLs_no _ k _ _ x y HA.out.2.2.1 HA.out.2.2.2 (by simpa using hq))
          clear hq
          go_upto_region 6 with (fail)
          refine wp_region_quiet_lit (by kernel_rfl) (by kernel_rfl) ?_
          repeat (first
            | quiet_step (fail)
            | (refine BigFrame.wpQuiet_want rfl (fun K hK => ?_); refine quiet_row 86 2 _ x.cells Tryd.underlying86 (by kernel_rfl) (by kernel_rfl) (fun w' hC => by obtain ⟨m, rfl⟩ := hC; exact ⟨r1a, r1b⟩) ?_; go_simp; refine hK _ ?_; clear hK K)
            | (refine BigFrame.wpQuiet_want rfl (fun K hK => ?_); refine quiet_row 86 2 _ y.cells Tryd.underlying86 (by kernel_rfl) (by kernel_rfl) (fun w' hC => by obtain ⟨m, rfl⟩ := hC; exact ⟨r2a, r2b⟩) ?_; go_simp; refine hK _ ?_; clear hK K))
          refine wpQuiet_nil ?_
          intro _ hw'
          obtain ⟨nq2, hw''⟩ := hw'
          subst hw''
          clear r1a r1b r2a r2b hn
          go_wp2
          go_ret
          exact ⟨by rw [HQ.out]; rfl, nq + nq2, by simp⟩
  · have hb : ((l1.length : Int) != (l2.length : Int)) = true := by simp; omega
    rw [eqLs_len _ _ _ hl]
    clear hl
    go_wp2
    go_ret
    exact ⟨rfl, 0, rfl⟩
set_option maxHeartbeats 1600000 in
set_option maxRecDepth 100000 in
theorem sl_sameParts (v1 v2 : Value) (l1 l2 : List PartD) (w : World) (h1 : RdParts w v1 l1) (h2 : RdParts w v2 l2) (hl1 : l1.length ≤ 100000) :
    Calls Tryd.prog 43 #[v1, v2] w (DrewPost w (.bool (eqLs eqPart l1 l2))) := by
  obtain ⟨a1, c1, e1⟩ := h1.len
  obtain ⟨a2, c2, e2⟩ := h2.len
  rw [List.length_map] at e1 e2
  subst e1 e2
  have H := Lib.hid (And.intro h1 h2)
  clear h1 h2
  go_enter Tryd.func43, Tryd.ntmps43
  by_cases hl : l1.length = l2.length
  · have hb : ((l1.length : Int) != (l2.length : Int)) = false := by rw [hl]; simp
    have HL := Lib.hid hl
    clear hl
    go_wp2
    go_loopg [13] l1.length (fun g s5 wr => ∃ k : Nat, k + g = l1.length ∧ s5 = .int .i64 k ∧ (∃ n, wr = w.drewN n) ∧ ∀ (i : Nat) (x y : PartD), i < k → l1[i]? = some x → l2[i]? = some y → eqPart x y = true)
    case atStart => exact ⟨0, by omega, rfl, ⟨0, rfl⟩, fun _ _ _ h => by omega⟩
    case round =>
      obtain ⟨k, hkg, rfl, ⟨nq, rfl⟩, hA⟩ := hrel
      cases gk with
      | zero =>
        have hk : ¬ ((k : Int) < (l1.length : Int)) := by omega
        have F : Hid (eqLs eqPart l1 l2 = true) := Lib.hid (eqLs_all _ _ _ HL.out (fun i x y h1 h2 => hA i x y (by have := (List.getElem?_eq_some_iff.1 h1).1; omega) h1 h2))
        clear hA hkg
        go_wp2
        go_ret
        exact ⟨by rw [F.out]; rfl, nq, rfl⟩
      | succ g =>
        have hk : (k : Int) < (l1.length : Int) := by omega
        have hk1 : k < l1.length := by omega
        have hk2 : k < l2.length := by have := HL.out; omega
        obtain ⟨x, hx⟩ : ∃ x, l1[k]? = some x := ⟨_, List.getElem?_eq_getElem hk1⟩
        obtain ⟨y, hy⟩ : ∃ y, l2[k]? = some y := ⟨_, List.getElem?_eq_getElem hk2⟩
        have HA := Lib.hid (And.intro hkg (And.intro hA (And.intro hx hy)))
        rcases H.out.1 with ⟨he, _, _, hv⟩ | ⟨b1, o1, p1, hv, hc, hb1, hi1⟩
        · simp at he; rw [he] at hx; simp at hx
        rcases H.out.2 with ⟨he, _, _, hv2⟩ | ⟨b2, o2, p2, hv2, hc2, hb2, hi2⟩
        · simp at he; rw [he] at hy; simp at hy
        simp only [List.length_map, Value.slice.injEq] at hv hv2
        obtain ⟨rfl, _, rfl⟩ := hv
        obtain ⟨rfl, _, rfl⟩ := hv2
        obtain ⟨r1a, r1b⟩ := row_mid (n := 2) (w := w) (cs := x.cells) (b := b1) (o := o1 + k * 2) (hi1 k _ (by rw [List.getElem?_map, hx]; rfl)).2 rfl
        obtain ⟨r2a, r2b⟩ := row_mid (n := 2) (w := w) (cs := y.cells) (b := b2) (o := o2 + k * 2) (hi2 k _ (by rw [List.getElem?_map, hy]; rfl)).2 rfl
        have hn := neq_eqPart x y
        clear hi1 hi2 hc hc2 hx hy hkg hA
        by_cases hq : eqPart x y = true
        · have hq2 : (!eqPart x y) = false := by rw [hq]; rfl
          have HQ := Lib.hid hq
          clear hq
          go_upto_region 6 with (fail)
          refine wp_region_quiet_lit (by kernel_rfl) (by kernel_rfl) ?_
          repeat (first
            | quiet_step (fail)
            | (refine BigFrame.wpQuiet_want rfl (fun K hK => ?_); refine quiet_row 86 2 _ x.cells Tryd.underlying86 (by kernel_rfl) (by kernel_rfl) (fun w' hC => by obtain ⟨m, rfl⟩ := hC; exact ⟨r1a, r1b⟩) ?_; go_simp; refine hK _ ?_; clear hK K)
            | (refine BigFrame.wpQuiet_want rfl (fun K hK => ?_); refine quiet_row 86 2 _ y.cells Tryd.underlying86 (by kernel_rfl) (by kernel_rfl) (fun w' hC => by obtain ⟨m, rfl⟩ := hC; exact ⟨r2a, r2b⟩) ?_; go_simp; refine hK _ ?_; clear hK K))
          refine wpQuiet_nil ?_
          intro _ hw'
          obtain ⟨nq2, hw''⟩ := hw'
          subst hw''
          clear r1a r1b r2a r2b hn
          go_wp2
          go_roundg g
          case measure => omega
          case rel =>
            refine ⟨k + 1, by have := HA.out.1; omega, by go_num, ⟨nq + nq2, by simp⟩, fun i x' y' hi h1 h2 => ?_⟩
            by_cases hik : i = k
            · subst hik
              rw [HA.out.2.2.1] at h1; rw [HA.out.2.2.2] at h2; cases h1; cases h2; exact HQ.out
            · exact HA.out.2.1 i x' y' (by omega) h1 h2
        · have hq2 : (!eqPart x y) = true := by simpa using hq
          have HQ : Hid (eqLs eqPart l1 l2 = false) := Lib.hid (eqLs_no _ k _ _ x y HA.out.2.2.1 HA.out.2.2.2 (by simpa using hq))
          clear hq
          go_upto_region 6 with (fail)
          refine wp_region_quiet_lit (by kernel_rfl) (by kernel_rfl) ?_
          repeat (first
            | quiet_step (fail)
            | (refine BigFrame.wpQuiet_want rfl (fun K hK => ?_); refine quiet_row 86 2 _ x.cells Tryd.underlying86 (by kernel_rfl) (by kernel_rfl) (fun w' hC => by obtain ⟨m, rfl⟩ := hC; exact ⟨r1a, r1b⟩) ?_; go_simp; refine hK _ ?_; clear hK K)
            | (refine BigFrame.wpQuiet_want rfl (fun K hK => ?_); refine quiet_row 86 2 _ y.cells Tryd.underlying86 (by kernel_rfl) (by kernel_rfl) (fun w' hC => by obtain ⟨m, rfl⟩ := hC; exact ⟨r2a, r2b⟩) ?_; go_simp; refine hK _ ?_; clear hK K))
          refine wpQuiet_nil ?_
          intro _ hw'
          obtain ⟨nq2, hw''⟩ := hw'
          subst hw''
          clear r1a r1b r2a r2b hn
          go_wp2
          go_ret
          exact ⟨by rw [HQ.out]; rfl, nq + nq2, by simp⟩
  · have hb : ((l1.length : Int) != (l2.length : Int)) = true := by simp; omega
    rw [eqLs_len _ _ _ hl]
    clear hl
    go_wp2
    go_ret
    exact ⟨rfl, 0, rfl⟩
set_option maxHeartbeats 1600000 in
set_option maxRecDepth 100000 in
theorem ref_sameWin (v1 v2 : Value) (l1 l2 : List EntryD) (w : World) (h1 : RdWin w v1 l1) (h2 : RdWin w v2 l2) (hl1 : l1.length ≤ 100000) :
    Calls Tryd.prog 39 #[v1, v2] w (DrewPost w (.bool (eqLs eqEnt l1 l2))) := by
  obtain ⟨a1, c1, e1⟩ := h1.len
  obtain ⟨a2, c2, e2⟩ := h2.len
  rw [List.length_map] at e1 e2
  subst e1 e2
  have H := Lib.hid (And.intro h1 h2)
  clear h1 h2
  go_enter Tryd.func39, Tryd.ntmps39
  by_cases hl : l1.length = l2.length
  · have hb : ((l1.length : Int) != (l2.length : Int)) = false := by rw [hl]; simp
    have HL := Lib.hid hl
    clear hl
    go_wp2
    go_loopg [5] l1.length (fun g s5 wr => ∃ k : Nat, k + g = l1.length ∧ s5 = .int .i64 k ∧ (∃ n, wr = w.drewN n) ∧ ∀ (i : Nat) (x y : EntryD), i < k → l1[i]? = some x → l2[i]? = some y → eqEnt x y = true)
    case atStart => exact ⟨0, by omega, rfl, ⟨0, rfl⟩, fun _ _ _ h => by omega⟩
    case round =>
      obtain ⟨k, hkg, rfl, ⟨nq, rfl⟩, hA⟩ := hrel
      cases gk with
      | zero =>
        have hk : ¬ ((k : Int) < (l1.length : Int)) := by omega
        have F : Hid (eqLs eqEnt l1 l2 = true) := Lib.hid (eqLs_all _ _ _ HL.out (fun i x y h1 h2 => hA i x y (by have := (List.getElem?_eq_some_iff.1 h1).1; omega) h1 h2))
        clear hA hkg
        go_wp2
        go_ret
        exact ⟨by rw [F.out]; rfl, nq, rfl⟩
      | succ g =>
        have hk : (k : Int) < (l1.length : Int) := by omega
        have hk1 : k < l1.length := by omega
        have hk2 : k < l2.length := by have := HL.out; omega
        obtain ⟨x, hx⟩ : ∃ x, l1[k]? = some x := ⟨_, List.getElem?_eq_getElem hk1⟩
        obtain ⟨y, hy⟩ : ∃ y, l2[k]? = some y := ⟨_, List.getElem?_eq_getElem hk2⟩
        have HA := Lib.hid (And.intro hkg (And.intro hA (And.intro hx hy)))
        rcases H.out.1 with ⟨he, _, _, hv⟩ | ⟨b1, o1, p1, hv, hc, hb1, hi1⟩
        · simp at he; rw [he] at hx; simp at hx
        rcases H.out.2 with ⟨he, _, _, hv2⟩ | ⟨b2, o2, p2, hv2, hc2, hb2, hi2⟩
        · simp at he; rw [he] at hy; simp at hy
        simp only [List.length_map, Value.slice.injEq] at hv hv2
        obtain ⟨rfl, _, rfl⟩ := hv
        obtain ⟨rfl, _, rfl⟩ := hv2
        obtain ⟨r1a, r1b⟩ := row_mid (n := 14) (w := w) (cs := x.cells) (b := b1) (o := o1 + k * 14) (hi1 k _ (by rw [List.getElem?_map, hx]; rfl)).2 rfl
        obtain ⟨r2a, r2b⟩ := row_mid (n := 14) (w := w) (cs := y.cells) (b := b2) (o := o2 + k * 14) (hi2 k _ (by rw [List.getElem?_map, hy]; rfl)).2 rfl
        have hn := neq_eqEnt x y
        clear hi1 hi2 hc hc2 hx hy hkg hA
        by_cases hq : eqEnt x y = true
        · have hq2 : (!eqEnt x y) = false := by rw [hq]; rfl
          have HQ := Lib.hid hq
          clear hq
          go_upto_region 6 with (fail)
          refine wp_region_quiet_lit (by kernel_rfl) (by kernel_rfl) ?_
          repeat (first
            | quiet_step (fail)
            | (refine BigFrame.wpQuiet_want rfl (fun K hK => ?_); refine quiet_row 77 14 _ x.cells Tryd.underlying77 (by kernel_rfl) (by kernel_rfl) (fun w' hC => by obtain ⟨m, rfl⟩ := hC; exact ⟨r1a, r1b⟩) ?_; go_simp; refine hK _ ?_; clear hK K)
            | (refine BigFrame.wpQuiet_want rfl (fun K hK => ?_); refine quiet_row 77 14 _ y.cells Tryd.underlying77 (by kernel_rfl) (by kernel_rfl) (fun w' hC => by obtain ⟨m, rfl⟩ := hC; exact ⟨r2a, r2b⟩) ?_; go_simp; refine hK _ ?_; clear hK K))
          refine wpQuiet_nil ?_
          intro _ hw'
          obtain ⟨nq2, hw''⟩ := hw'
          subst hw''
          clear r1a r1b r2a r2b hn
          go_wp2
          go_roundg g
          case measure => omega
          case rel =>
            refine ⟨k + 1, by have := HA.out.1; omega, by go_num, ⟨nq + nq2, by simp⟩, fun i x' y' hi h1 h2 => ?_⟩
            by_cases hik : i = k
            · subst hik
              rw [HA.out.2.2.1] at h1; rw [HA.out.2.2.2] at h2; cases h1; cases h2; exact HQ.out
            · exact HA.out.2.1 i x' y' (by omega) h1 h2
        · have hq2 : (!eqEnt x y) = true := by simpa using hq
          have HQ : Hid (eqLs eqEnt l1 l2 = false) := Lib.hid (eqLs_no _ k _ _ x y HA.out.2.2.1 HA.out.2.2.2 (by simpa using hq))
          clear hq
          go_upto_region 6 with (fail)
          refine wp_region_quiet_lit (by kernel_rfl) (by kernel_rfl) ?_
          repeat (first
            | quiet_step (fail)
            | (refine BigFrame.wpQuiet_want rfl (fun K hK => ?_); refine quiet_row 77 14 _ x.cells Tryd.underlying77 (by kernel_rfl) (by kernel_rfl) (fun w' hC => by obtain ⟨m, rfl⟩ := hC; exact ⟨r1a, r1b⟩) ?_; go_simp; refine hK _ ?_; clear hK K)
            | (refine BigFrame.wpQuiet_want rfl (fun K hK => ?_); refine quiet_row 77 14 _ y.cells Tryd.underlying77 (by kernel_rfl) (by kernel_rfl) (fun w' hC => by obtain ⟨m, rfl⟩ := hC; exact ⟨r2a, r2b⟩) ?_; go_simp; refine hK _ ?_; clear hK K))
          refine wpQuiet_nil ?_
          intro _ hw'
          obtain ⟨nq2, hw''⟩ := hw'
          subst hw''
          clear r1a r1b r2a r2b hn
          go_wp2
          go_ret
          exact ⟨by rw [HQ.out]; rfl, nq + nq2, by simp⟩
  · have hb : ((l1.length : Int) != (l2.length : Int)) = true := by simp; omega
    rw [eqLs_len _ _ _ hl]
    clear hl
    go_wp2
    go_ret
    exact ⟨rfl, 0, rfl⟩
set_option maxHeartbeats 1600000 in
set_option maxRecDepth 100000 in
theorem sl_sameWin (v1 v2 : Value) (l1 l2 : List EntryD) (w : World) (h1 : RdWin w v1 l1) (h2 : RdWin w v2 l2) (hl1 : l1.length ≤ 100000) :
    Calls Tryd.prog 46 #[v1, v2] w (DrewPost w (.bool (eqLs eqEnt l1 l2))) := by
  obtain ⟨a1, c1, e1⟩ := h1.len
  obtain ⟨a2, c2, e2⟩ := h2.len
  rw [List.length_map] at e1 e2
  subst e1 e2
  have H := Lib.hid (And.intro h1 h2)
  clear h1 h2
  go_enter Tryd.func46, Tryd.ntmps46
  by_cases hl : l1.length = l2.length
  · have hb : ((l1.length : Int) != (l2.length : Int)) = false := by rw [hl]; simp
    have HL := Lib.hid hl
    clear hl
    go_wp2
    go_loopg [13] l1.length (fun g s5 wr => ∃ k : Nat, k + g = l1.length ∧ s5 = .int .i64 k ∧ (∃ n, wr = w.drewN n) ∧ ∀ (i : Nat) (x y : EntryD), i < k → l1[i]? = some x → l2[i]? = some y → eqEnt x y = true)
    case atStart => exact ⟨0, by omega, rfl, ⟨0, rfl⟩, fun _ _ _ h => by omega⟩
    case round =>
      obtain ⟨k, hkg, rfl, ⟨nq, rfl⟩, hA⟩ := hrel
      cases gk with
      | zero =>
        have hk : ¬ ((k : Int) < (l1.length : Int)) := by omega
        have F : Hid (eqLs eqEnt l1 l2 = true) := Lib.hid (eqLs_all _ _ _ HL.out (fun i x y h1 h2 => hA i x y (by have := (List.getElem?_eq_some_iff.1 h1).1; omega) h1 h2))
        clear hA hkg
        go_wp2
        go_ret
        exact ⟨by rw [F.out]; rfl, nq, rfl⟩
      | succ g =>
        have hk : (k : Int) < (l1.length : Int) := by omega
        have hk1 : k < l1.length := by omega
        have hk2 : k < l2.length := by have := HL.out; omega
        obtain ⟨x, hx⟩ : ∃ x, l1[k]? = some x := ⟨_, List.getElem?_eq_getElem hk1⟩
        obtain ⟨y, hy⟩ : ∃ y, l2[k]? = some y := ⟨_, List.getElem?_eq_getElem hk2⟩
        have HA := Lib.hid (And.intro hkg (And.intro hA (And.intro hx hy)))
        rcases H.out.1 with ⟨he, _, _, hv⟩ | ⟨b1, o1, p1, hv, hc, hb1, hi1⟩
        · simp at he; rw [he] at hx; simp at hx
        rcases H.out.2 with ⟨he, _, _, hv2⟩ | ⟨b2, o2, p2, hv2, hc2, hb2, hi2⟩
        · simp at he; rw [he] at hy; simp at hy
        simp only [List.length_map, Value.slice.injEq] at hv hv2
        obtain ⟨rfl, _, rfl⟩ := hv
        obtain ⟨rfl, _, rfl⟩ := hv2
        obtain ⟨r1a, r1b⟩ := row_mid (n := 14) (w := w) (cs := x.cells) (b := b1) (o := o1 + k * 14) (hi1 k _ (by rw [List.getElem?_map, hx]; rfl)).2 rfl
        obtain ⟨r2a, r2b⟩ := row_mid (n := 14) (w := w) (cs := y.cells) (b := b2) (o := o2 + k * 14) (hi2 k _ (by rw [List.getElem?_map, hy]; rfl)).2 rfl
        have hn := neq_eqEnt x y
        clear hi1 hi2 hc hc2 hx hy hkg hA
        by_cases hq : eqEnt x y = true
        · have hq2 : (!eqEnt x y) = false := by rw [hq]; rfl
          have HQ := Lib.hid hq
          clear hq
          go_upto_region 6 with (fail)
          refine wp_region_quiet_lit (by kernel_rfl) (by kernel_rfl) ?_
          repeat (first
            | quiet_step (fail)
            | (refine BigFrame.wpQuiet_want rfl (fun K hK => ?_); refine quiet_row 77 14 _ x.cells Tryd.underlying77 (by kernel_rfl) (by kernel_rfl) (fun w' hC => by obtain ⟨m, rfl⟩ := hC; exact ⟨r1a, r1b⟩) ?_; go_simp; refine hK _ ?_; clear hK K)
            | (refine BigFrame.wpQuiet_want rfl (fun K hK => ?_); refine quiet_row 77 14 _ y.cells Tryd.underlying77 (by kernel_rfl) (by kernel_rfl) (fun w' hC => by obtain ⟨m, rfl⟩ := hC; exact ⟨r2a, r2b⟩) ?_; go_simp; refine hK _ ?_; clear hK K))
          refine wpQuiet_nil ?_
          intro _ hw'
          obtain ⟨nq2, hw''⟩ := hw'
          subst hw''
          clear r1a r1b r2a r2b hn
          go_wp2
          go_roundg g
          case measure => omega
          case rel =>
            refine ⟨k + 1, by have := HA.out.1; omega, by go_num, ⟨nq + nq2, by simp⟩, fun i x' y' hi h1 h2 => ?_⟩
            by_cases hik : i = k
            · subst hik
              rw [HA.out.2.2.1] at h1; rw [HA.out.2.2.2] at h2; cases h1; cases h2; exact HQ.out
            · exact HA.out.2.1 i x' y' (by omega) h1 h2
        · have hq2 : (!eqEnt x y) = true := by simpa using hq
          have HQ : Hid (eqLs eqEnt l1 l2 = false) := Lib.hid (eqLs_no _ k _ _ x y HA.out.2.2.1 HA.out.2.2.2 (by simpa using hq))
          clear hq
          go_upto_region 6 with (fail)
          refine wp_region_quiet_lit (by kernel_rfl) (by kernel_rfl) ?_
          repeat (first
            | quiet_step (fail)
            | (refine BigFrame.wpQuiet_want rfl (fun K hK => ?_); refine quiet_row 77 14 _ x.cells Tryd.underlying77 (by kernel_rfl) (by kernel_rfl) (fun w' hC => by obtain ⟨m, rfl⟩ := hC; exact ⟨r1a, r1b⟩) ?_; go_simp; refine hK _ ?_; clear hK K)
            | (refine BigFrame.wpQuiet_want rfl (fun K hK => ?_); refine quiet_row 77 14 _ y.cells Tryd.underlying77 (by kernel_rfl) (by kernel_rfl) (fun w' hC => by obtain ⟨m, rfl⟩ := hC; exact ⟨r2a, r2b⟩) ?_; go_simp; refine hK _ ?_; clear hK K))
          refine wpQuiet_nil ?_
          intro _ hw'
          obtain ⟨nq2, hw''⟩ := hw'
          subst hw''
          clear r1a r1b r2a r2b hn
          go_wp2
          go_ret
          exact ⟨by rw [HQ.out]; rfl, nq + nq2, by simp⟩
  · have hb : ((l1.length : Int) != (l2.length : Int)) = true := by simp; omega
    rw [eqLs_len _ _ _ hl]
    clear hl
    go_wp2
    go_ret
    exact ⟨rfl, 0, rfl⟩
end Go.Proofs.YtehkgcmdndehaaaDoor

