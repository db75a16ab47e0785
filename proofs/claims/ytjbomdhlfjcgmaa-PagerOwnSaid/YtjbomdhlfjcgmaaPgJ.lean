/-
  The law PagerOwn.
-/
import Derived.Test.YtjbomdhlfjcgmaaPgI
import Derived.Test.YtjbomdhlfjcgmaaRegW
namespace Go.Proofs.Ytjbomdhlfjcgmaa
set_option linter.unusedSimpArgs false
set_option linter.unusedVariables false
open Go.RowKit

theorem H_pair2 {P : Program} {ops : Array Oper} {Q : Exit → Act → World → Prop} {md : Region.Mode} {S : World → Prop} {i j : Nat} {oi oj : Oper} {n : Nat} {l : Array Bool} {a : Act} {w : World} (hr : Region.ready md ops l = [i, j]) (hi : ops[i]? = some oi) (hj : ops[j]? = some oj)
    (h1 : ∀ K : Act → World → Prop, Hid (∀ a w, S w → wpAnyH P md ops Q S n (l.setIfInBounds i true) a w → K a w) → if Region.wanted oi (yielded ops a.tmps) = true then Oper.wp P oi a w K Q else K (a.put oi.dst undef) w)
    (h2 : ∀ K : Act → World → Prop, Hid (∀ a w, S w → wpAnyH P md ops Q S n (l.setIfInBounds j true) a w → K a w) → if Region.wanted oj (yielded ops a.tmps) = true then Oper.wp P oj a w K Q else K (a.put oj.dst undef) w) :
    wpAnyH P md ops Q S (n + 1) l a w :=
  wpAnyH_all hr (by simp) fun x hx => by
    simp only [List.mem_cons, List.not_mem_nil, or_false] at hx
    rcases hx with rfl | rfl
    · exact wpOp_step hi (fun K' hK => h1 K' (Lib.hid fun a w hS hW => hK a w ⟨hS, hW⟩))
    · exact wpOp_step hj (fun K' hK => h2 K' (Lib.hid fun a w hS hW => hK a w ⟨hS, hW⟩))
theorem one_reads3 (w : World) (x : UInt8) (xi : Int) (hx : xi = (x.toNat : Int)) : Reads (w.alloc (.cells #[.int .u8 xi] 5)) (.slice (some ⟨w.heap.size, 0, none⟩) 1 1) [x] := by
  subst hx
  refine .inr ⟨w.heap.size, 0, 1, rfl, Nat.le_refl _, by simp, fun i y hi => ?_⟩
  rw [Nat.zero_add, World.cell?_alloc_at _ _ _ _ rfl]
  match i, hi with
  | 0, hi => cases hi; rfl
theorem conv_of {v : Value} {zs : List UInt8} {w w' : World} (h : Reads w v zs) (k : Below w.heap.size w w') : (convert 22 9 v).run Try.prog w' = .ok (.string (strB zs)) w' :=
  run_string_of 22 9 5 Try.underlying22 Try.underlying5 Try.underlying9 (h.below k)

set_option maxHeartbeats 6400000 in
set_option maxRecDepth 100000 in
theorem pagerOwn_walk {w : World} (vb : Value) (bs : List UInt8) (hz : Reads w vb bs) (y : Int) (hy : (Lit.int .u8 y).wf = true) : Calls Try.prog 3 #[vb, .int .u8 y] w (fun e w' => e = .returned (.bool true) ∧ Below w.heap.size w w') := by
  obtain ⟨t, rfl⟩ := byte_of' hy
  obtain ⟨av, cv, rfl⟩ := hz.len
  have HZ := Lib.hid hz
  clear hz hy
  by_cases hl : 496 < bs.length
  · have hl' : (496 : Int) < (bs.length : Int) := by omega
    clear hl
    go_enter Try.func3, Try.ntmps3
    go_wp2_with (go_at_call 9; go_must (refine (law3_known _).mono ?_; rintro e w1 ⟨rfl, hB⟩; have X1 := Lib.hid hB; clear hB))
    go_ret
    exact ⟨rfl, X1.out⟩
  · have hl' : ¬ (496 : Int) < (bs.length : Int) := by omega
    have HL : Hid (bs.length ≤ 496) := Lib.hid (by omega)
    clear hl
    go_enter Try.func3, Try.ntmps3
    go_upto_region 7 with (first
      | (go_at_call 9; go_must (refine (law3_known _).mono ?_; rintro e w1 ⟨rfl, hB⟩; have X1 := Lib.hid hB; clear hB))
      | (go_at_call 10; go_must (refine (ub_new 100 (by omega) (by omega) X1.out).mono ?_; rintro e w2 ⟨db, G, rfl, hd⟩; have X2 := Lib.hid hd; clear hd))
      | (go_at_call 11; go_must (refine (ub_open X2.out).mono ?_; rintro e w3 ⟨pb, F, rfl, hup⟩; have X3 := Lib.hid hup; clear hup)))
    have K3 : Hid ((loadS (DiskS.new 100)).left ≠ 0) := Lib.hid (by rw [left_new X3.out.up.inv]; decide)
    have Z3 : Hid (Reads w3 (.slice av bs.length cv) bs) := Lib.hid (HZ.out.below X3.out.bel)
    go_upto_region 8 with (at_builtin; go_must (refine wpList_copy_row w3 rfl (.tmp 34) (.tmp 35) rfl rfl rfl (.slice av bs.length cv) bs rfl Z3.out (fits_of _ (by have := HL.out; omega)) ?_; intro a9 c9 w4 hrow hB; have X4 := Lib.hid (OwnAt.new X3.out (X3.out.below hB) hrow); clear hrow hB))
    go_upto_region 9 with (go_at_call 12; go_must (refine (ub_alloc X4.out.up _ bs X4.out.row.reads HL.out (fun k hk => (X4.out.far k hk).1) K3.out).mono ?_; rintro e w5 ⟨n, S5, F5, rfl, hup, hq, hm⟩; have X5 := Lib.hid (And.intro (X4.out.turn hup hm.left) (show nowP S5 _ n = some bs by rw [hq.2.2.2.2.1, if_pos rfl])); clear hup hq hm))
    go_upto_region 10 with (fail)
    obtain ⟨w6, hw6⟩ : ∃ w6, w6 = w5.alloc (.cells #[.int .u8 (t.toNat : Int)] 5) := ⟨_, rfl⟩
    rw [← hw6]
    obtain ⟨rb, hrb⟩ : ∃ rb, rb = w5.heap.size := ⟨_, rfl⟩
    rw [← hrb]
    have X6 : Hid (Own2 w w6 pb db n bs (.slice a9 bs.length c9) bs rb t) := Lib.hid (by
      have h5 := X5.out.1.up
      have h6 : UpB w w6 pb db F5 G (DiskS.new 100) S5 Comm.new := by rw [hw6]; exact h5.below (below_any _ _)
      refine ⟨F5, G, _, S5, _, ⟨h6, by rw [hw6]; exact (X5.out.1.below (below_any _ _)).row, X5.out.1.far⟩, OwnAt.new h5 h6 (by rw [hw6, hrb]; exact row_one w5 _ t _ rfl (Nat.le_refl _)), X5.out.2, rfl, fun e => ?_⟩
      have := (X5.out.1.row.blk _ e).2
      omega)
    clear hw6 hrb
    go_upto_region 11 with (fail)
    go_loopg [13] bs.length (fun g s13 wr => ∃ (j : Nat) (zm : List UInt8), j + g = bs.length ∧ s13 = .int .i64 j ∧ zm.length = bs.length ∧ Own2 w wr pb db n bs (.slice a9 bs.length c9) zm rb t)
    case atStart => exact ⟨0, bs, by omega, rfl, rfl, X6.out⟩
    case round =>
      obtain ⟨j, zm, hjg, rfl, hzl, hO⟩ := hrel
      obtain ⟨wB, rfl⟩ : ∃ x : World, x = wr := ⟨_, rfl⟩
      obtain ⟨F8, G8, D8, S8, C8, o1, o2, hnow, hsq, hne⟩ := hO
      have HO := Lib.hid (And.intro o1 (And.intro o2 (And.intro hnow (And.intro hsq (And.intro hne (And.intro hzl hjg))))))
      clear o1 o2 hnow hsq hne hzl
      cases gk with
      | succ g =>
        have hj : (j : Int) < (bs.length : Int) := by omega
        have hjn : j < bs.length := by omega
        obtain ⟨_, g9, rfl⟩ := HO.out.1.row.form (by have := HO.out.2.2.2.2.2.1; omega)
        obtain ⟨xj, hxj⟩ : ∃ x, zm[j]? = some x := ⟨_, List.getElem?_eq_getElem (by have := HO.out.2.2.2.2.2.1; omega)⟩
        obtain ⟨kc, kf⟩ := HO.out.1.row.cell j xj hxj
        clear hjg hxj
        go_wp2
        obtain ⟨xb, hxb⟩ := byte_of' (wf_bits .xor .u8 xj.toNat t.toNat)
        have X10 := HO.out.1.set j xb _ hxb
        have X11 := HO.out.2.1.other g9 j (.int .u8 (bits .xor .u8 xj.toNat t.toNat)) ⟨(HO.out.1.row.blk g9 rfl).1, HO.out.1.far g9 rfl⟩ (fun e => HO.out.2.2.2.2.1 e.symm)
        go_roundg g
        case measure => omega
        case rel => exact ⟨j + 1, zm.set j xb, by have := HO.out.2.2.2.2.2.2; omega, by simp, by rw [List.length_set]; exact HO.out.2.2.2.2.2.1, F8, G8, D8, S8, C8, X10, X11, HO.out.2.2.1, HO.out.2.2.2.1, HO.out.2.2.2.2.1⟩
      | zero =>
        have hj : ¬ (j : Int) < (bs.length : Int) := by omega
        clear hjg
        go_upto_region 15 with (go_at_call 13; go_must (refine (ub_commit HO.out.1.up (some ⟨rb, 0, none⟩) 1 [t] HO.out.2.1.row.reads (by simp) HO.out.2.1.far (by rw [HO.out.2.2.2.1]; decide)).mono ?_; rintro e w9 ⟨F9, G9, D9, rfl, hup, _, _, hm⟩; have X9 := Lib.hid (And.intro (HO.out.2.1.turn hup hm) (And.intro ((done_now S8 C8 [t] n).trans HO.out.2.2.1) hup)); clear hup hm))
        obtain ⟨kc, kf⟩ := X9.out.1.row.cell 0 t rfl
        go_upto_region 16 with (fail)
        obtain ⟨w10, hw10⟩ : ∃ w10, w10 = w9.setCell ⟨rb, 0, none⟩ (.int .u8 (bits .xor .u8 t.toNat 255)) := ⟨_, rfl⟩
        have X10 : Hid (UpB w w10 pb db F9 G9 D9 (S8.done [t]) (commC S8 C8 [t])) := Lib.hid (by rw [hw10]; exact X9.out.2.2.other (keeps_put1 w9 rb 0 _) (fun k hk => by rw [hk]; exact ⟨(X9.out.1.row.blk rb rfl).1, X9.out.1.far rb rfl⟩))
        rw [← hw10]
        clear hw10 kc kf
        go_upto_region 17 with (go_at_call 14; go_must (refine (ub_read_own X10.out n bs X9.out.2.1 rfl).mono ?_; rintro e w11 ⟨a11, c11, rfl, hrow, hup, hk⟩; have X11 : Hid (Own1 w w11 pb db n bs (.slice a11 bs.length c11) bs t) := Lib.hid ⟨_, _, _, _, _, OwnAt.new X10.out hup hrow, X9.out.2.1, rfl, rfl⟩; clear hrow hup hk))
        go_upto_region 18 with (fail)
        go_loopg [17] bs.length (fun g s17 wr => ∃ (j : Nat) (zx : List UInt8), j + g = bs.length ∧ s17 = .int .i64 j ∧ zx.length = bs.length ∧ Own1 w wr pb db n bs (.slice a11 bs.length c11) zx t)
        case atStart => exact ⟨0, bs, by omega, rfl, rfl, X11.out⟩
        case round =>
          obtain ⟨j, zx, hjg, rfl, hzl, hO⟩ := hrel
          obtain ⟨wC, rfl⟩ : ∃ x : World, x = wr := ⟨_, rfl⟩
          obtain ⟨FA, GA, DA, SA, CA, o1, hnow, hfr, hrt⟩ := hO
          have HA := Lib.hid (And.intro o1 (And.intro hnow (And.intro hfr (And.intro hrt (And.intro hzl hjg)))))
          clear o1 hnow hfr hrt hzl
          cases gk with
          | succ g =>
            have hj : (j : Int) < (bs.length : Int) := by omega
            have hjn : j < bs.length := by omega
            obtain ⟨_, g9, rfl⟩ := HA.out.1.row.form (by have := HA.out.2.2.2.2.1; omega)
            obtain ⟨xj, hxj⟩ : ∃ x, zx[j]? = some x := ⟨_, List.getElem?_eq_getElem (by have := HA.out.2.2.2.2.1; omega)⟩
            obtain ⟨kc, kf⟩ := HA.out.1.row.cell j xj hxj
            clear hjg hxj
            go_wp2
            obtain ⟨xb, hxb⟩ := byte_of' (wf_bits .xor .u8 xj.toNat t.toNat)
            have X12 := HA.out.1.set j xb _ hxb
            go_roundg g
            case measure => omega
            case rel => exact ⟨j + 1, zx.set j xb, by have := HA.out.2.2.2.2.2; omega, by simp, by rw [List.length_set]; exact HA.out.2.2.2.2.1, FA, GA, DA, SA, CA, X12, HA.out.2.1, HA.out.2.2.1, HA.out.2.2.2.1⟩
          | zero =>
            have hj : ¬ (j : Int) < (bs.length : Int) := by omega
            clear hjg
            go_upto_region 22 with (go_at_call 14; go_must (refine (ub_read HA.out.1.up n bs HA.out.2.1).mono ?_; rintro e w13 ⟨a13, c13, rfl, hr13, _, hup, _⟩; have X13 := Lib.hid (And.intro hup hr13); clear hr13 hup))
            have ZE : Hid (Reads w13 (.slice av bs.length cv) bs) := Lib.hid (HZ.out.below X13.out.1.bel)
            refine wp_region_held_drew (S := fun w' => Below w13.heap.size w13 w' ∧ (convert 22 9 (.slice a13 bs.length c13)).run Try.prog w' = .ok (.string (strB bs)) w' ∧ (convert 22 9 (.slice av bs.length cv)).run Try.prog w' = .ok (.string (strB bs)) w') (by kernel_rfl) ⟨(Below.refl _ w13).drew, conv_of X13.out.2 (Below.refl _ w13).drew, conv_of ZE.out (Below.refl _ w13).drew⟩ (fun hHeld => ?_)
            have qS := hHeld
            clear hHeld
            refine wpAnyH_take (i := 0) (oi := { dst := some 91, op := Op.move (.tmp 8), type := 25, pos := "more.go:34", after := #[], guard := none }) (v := ?_) rfl (by kernel_rfl) (by kernel_rfl) (by kernel_rfl) (fun _ _ _ h => h) (Or.inl ⟨by rfl, ?_⟩) qS ?_
            rotate_left
            · intro w hSw
              (try dsimp only at hSw)
              go_simp
              all_goals with_reducible rfl
            simp only [Act.put, List.setIfInBounds_toArray, List.set_cons_zero, List.set_cons_succ]
            refine wpAnyH_take (i := 1) (oi := { dst := some 92, op := Op.binOp BinOp.eql 25 (.tmp 91) (.const (Value.int IntKind.i64 0)) 25, type := 4, pos := "more.go:34", after := #[{ on := 0, ground := .data }], guard := none }) (v := ?_) rfl (by kernel_rfl) (by kernel_rfl) (by kernel_rfl) (fun _ _ _ h => h) (Or.inl ⟨by rfl, ?_⟩) qS ?_
            rotate_left
            · intro w hSw
              (try dsimp only at hSw)
              go_simp
              all_goals with_reducible rfl
            simp only [Act.put, List.setIfInBounds_toArray, List.set_cons_zero, List.set_cons_succ]
            refine wpAnyH_take (i := 2) (oi := { dst := some 93, op := Op.move (.tmp 92), type := 4, pos := "more.go:34", after := #[{ on := 1, ground := .data }], guard := none }) (v := ?_) rfl (by kernel_rfl) (by kernel_rfl) (by kernel_rfl) (fun _ _ _ h => h) (Or.inl ⟨by rfl, ?_⟩) qS ?_
            rotate_left
            · intro w hSw
              (try dsimp only at hSw)
              go_simp
              all_goals with_reducible rfl
            simp only [Act.put, List.setIfInBounds_toArray, List.set_cons_zero, List.set_cons_succ]
            refine wpAnyH_take (i := 3) (oi := { dst := some 94, op := Op.move (.tmp 11), type := 25, pos := "more.go:34", after := #[{ on := 2, ground := .guard }], guard := some (2, true) }) (v := ?_) rfl (by kernel_rfl) (by kernel_rfl) (by kernel_rfl) (fun _ _ _ h => h) (Or.inl ⟨by rfl, ?_⟩) qS ?_
            rotate_left
            · intro w hSw
              (try dsimp only at hSw)
              go_simp
              all_goals with_reducible rfl
            simp only [Act.put, List.setIfInBounds_toArray, List.set_cons_zero, List.set_cons_succ]
            refine wpAnyH_take (i := 4) (oi := { dst := some 95, op := Op.binOp BinOp.eql 25 (.tmp 94) (.const (Value.int IntKind.i64 0)) 25, type := 4, pos := "more.go:34", after := #[{ on := 3, ground := .data }, { on := 2, ground := .guard }], guard := some (2, true) }) (v := ?_) rfl (by kernel_rfl) (by kernel_rfl) (by kernel_rfl) (fun _ _ _ h => h) (Or.inl ⟨by rfl, ?_⟩) qS ?_
            rotate_left
            · intro w hSw
              (try dsimp only at hSw)
              go_simp
              all_goals with_reducible rfl
            simp only [Act.put, List.setIfInBounds_toArray, List.set_cons_zero, List.set_cons_succ]
            refine wpAnyH_take (i := 5) (oi := { dst := some 96, op := Op.pick (.tmp 93) (.tmp 95) (.const (Value.bool false)), type := 4, pos := "more.go:34", after := #[{ on := 2, ground := .data }, { on := 4, ground := .data }], guard := none }) (v := ?_) rfl (by kernel_rfl) (by kernel_rfl) (by kernel_rfl) (fun _ _ _ h => h) (Or.inl ⟨by rfl, ?_⟩) qS ?_
            rotate_left
            · intro w hSw
              (try dsimp only at hSw)
              go_simp
              all_goals with_reducible rfl
            simp only [Act.put, List.setIfInBounds_toArray, List.set_cons_zero, List.set_cons_succ]
            refine wpAnyH_take (i := 6) (oi := { dst := some 97, op := Op.move (.tmp 96), type := 4, pos := "more.go:34", after := #[{ on := 5, ground := .data }, { on := 2, ground := .chain }], guard := none }) (v := ?_) rfl (by kernel_rfl) (by kernel_rfl) (by kernel_rfl) (fun _ _ _ h => h) (Or.inl ⟨by rfl, ?_⟩) qS ?_
            rotate_left
            · intro w hSw
              (try dsimp only at hSw)
              go_simp
              all_goals with_reducible rfl
            simp only [Act.put, List.setIfInBounds_toArray, List.set_cons_zero, List.set_cons_succ]
            refine wpAnyH_take (i := 7) (oi := { dst := some 98, op := Op.move (.tmp 14), type := 25, pos := "more.go:34", after := #[{ on := 6, ground := .guard }], guard := some (6, true) }) (v := ?_) rfl (by kernel_rfl) (by kernel_rfl) (by kernel_rfl) (fun _ _ _ h => h) (Or.inl ⟨by rfl, ?_⟩) qS ?_
            rotate_left
            · intro w hSw
              (try dsimp only at hSw)
              go_simp
              all_goals with_reducible rfl
            simp only [Act.put, List.setIfInBounds_toArray, List.set_cons_zero, List.set_cons_succ]
            refine wpAnyH_take (i := 8) (oi := { dst := some 99, op := Op.binOp BinOp.eql 25 (.tmp 98) (.const (Value.int IntKind.i64 0)) 25, type := 4, pos := "more.go:34", after := #[{ on := 7, ground := .data }, { on := 6, ground := .guard }], guard := some (6, true) }) (v := ?_) rfl (by kernel_rfl) (by kernel_rfl) (by kernel_rfl) (fun _ _ _ h => h) (Or.inl ⟨by rfl, ?_⟩) qS ?_
            rotate_left
            · intro w hSw
              (try dsimp only at hSw)
              go_simp
              all_goals with_reducible rfl
            simp only [Act.put, List.setIfInBounds_toArray, List.set_cons_zero, List.set_cons_succ]
            refine wpAnyH_take (i := 9) (oi := { dst := some 100, op := Op.pick (.tmp 97) (.tmp 99) (.const (Value.bool false)), type := 4, pos := "more.go:34", after := #[{ on := 6, ground := .data }, { on := 8, ground := .data }], guard := none }) (v := ?_) rfl (by kernel_rfl) (by kernel_rfl) (by kernel_rfl) (fun _ _ _ h => h) (Or.inl ⟨by rfl, ?_⟩) qS ?_
            rotate_left
            · intro w hSw
              (try dsimp only at hSw)
              go_simp
              all_goals with_reducible rfl
            simp only [Act.put, List.setIfInBounds_toArray, List.set_cons_zero, List.set_cons_succ]
            refine wpAnyH_take (i := 10) (oi := { dst := some 101, op := Op.move (.tmp 100), type := 4, pos := "more.go:34", after := #[{ on := 9, ground := .data }, { on := 6, ground := .chain }], guard := none }) (v := ?_) rfl (by kernel_rfl) (by kernel_rfl) (by kernel_rfl) (fun _ _ _ h => h) (Or.inl ⟨by rfl, ?_⟩) qS ?_
            rotate_left
            · intro w hSw
              (try dsimp only at hSw)
              go_simp
              all_goals with_reducible rfl
            simp only [Act.put, List.setIfInBounds_toArray, List.set_cons_zero, List.set_cons_succ]
            refine wpAnyH_take (i := 11) (oi := { dst := some 102, op := Op.move (.tmp 19), type := 25, pos := "more.go:34", after := #[{ on := 10, ground := .guard }], guard := some (10, true) }) (v := ?_) rfl (by kernel_rfl) (by kernel_rfl) (by kernel_rfl) (fun _ _ _ h => h) (Or.inl ⟨by rfl, ?_⟩) qS ?_
            rotate_left
            · intro w hSw
              (try dsimp only at hSw)
              go_simp
              all_goals with_reducible rfl
            simp only [Act.put, List.setIfInBounds_toArray, List.set_cons_zero, List.set_cons_succ]
            refine wpAnyH_take (i := 12) (oi := { dst := some 103, op := Op.binOp BinOp.eql 25 (.tmp 102) (.const (Value.int IntKind.i64 0)) 25, type := 4, pos := "more.go:34", after := #[{ on := 11, ground := .data }, { on := 10, ground := .guard }], guard := some (10, true) }) (v := ?_) rfl (by kernel_rfl) (by kernel_rfl) (by kernel_rfl) (fun _ _ _ h => h) (Or.inl ⟨by rfl, ?_⟩) qS ?_
            rotate_left
            · intro w hSw
              (try dsimp only at hSw)
              go_simp
              all_goals with_reducible rfl
            simp only [Act.put, List.setIfInBounds_toArray, List.set_cons_zero, List.set_cons_succ]
            refine wpAnyH_take (i := 13) (oi := { dst := some 104, op := Op.pick (.tmp 101) (.tmp 103) (.const (Value.bool false)), type := 4, pos := "more.go:34", after := #[{ on := 10, ground := .data }, { on := 12, ground := .data }], guard := none }) (v := ?_) rfl (by kernel_rfl) (by kernel_rfl) (by kernel_rfl) (fun _ _ _ h => h) (Or.inl ⟨by rfl, ?_⟩) qS ?_
            rotate_left
            · intro w hSw
              (try dsimp only at hSw)
              go_simp
              all_goals with_reducible rfl
            simp only [Act.put, List.setIfInBounds_toArray, List.set_cons_zero, List.set_cons_succ]
            refine wpAnyH_take (i := 14) (oi := { dst := some 105, op := Op.move (.tmp 104), type := 4, pos := "more.go:34", after := #[{ on := 13, ground := .data }, { on := 10, ground := .chain }], guard := none }) (v := ?_) rfl (by kernel_rfl) (by kernel_rfl) (by kernel_rfl) (fun _ _ _ h => h) (Or.inl ⟨by rfl, ?_⟩) qS ?_
            rotate_left
            · intro w hSw
              (try dsimp only at hSw)
              go_simp
              all_goals with_reducible rfl
            simp only [Act.put, List.setIfInBounds_toArray, List.set_cons_zero, List.set_cons_succ]
            refine wpAnyH_take (i := 15) (oi := { dst := some 106, op := Op.move (.tmp 18), type := 22, pos := "more.go:34", after := #[{ on := 14, ground := .guard }], guard := some (14, true) }) (v := ?_) rfl (by kernel_rfl) (by kernel_rfl) (by kernel_rfl) (fun _ _ _ h => h) (Or.inl ⟨by rfl, ?_⟩) qS ?_
            rotate_left
            · intro w hSw
              (try dsimp only at hSw)
              go_simp
              all_goals with_reducible rfl
            simp only [Act.put, List.setIfInBounds_toArray, List.set_cons_zero, List.set_cons_succ]
            refine wpAnyH_take (i := 16) (oi := { dst := some 107, op := Op.convert 22 9 (.tmp 106), type := 9, pos := "more.go:34", after := #[{ on := 15, ground := .data }, { on := 14, ground := .guard }], guard := some (14, true) }) (v := ?_) rfl (by kernel_rfl) (by kernel_rfl) (by kernel_rfl) (fun _ _ _ h => h) (Or.inl ⟨by rfl, ?_⟩) qS ?_
            rotate_left
            · intro w hSw
              (try dsimp only at hSw)
              go_simp
              all_goals with_reducible rfl
            simp only [Act.put, List.setIfInBounds_toArray, List.set_cons_zero, List.set_cons_succ]
            refine wpAnyH_take (i := 17) (oi := { dst := some 108, op := Op.move (.tmp 0), type := 22, pos := "more.go:34", after := #[{ on := 14, ground := .guard }], guard := some (14, true) }) (v := ?_) rfl (by kernel_rfl) (by kernel_rfl) (by kernel_rfl) (fun _ _ _ h => h) (Or.inl ⟨by rfl, ?_⟩) qS ?_
            rotate_left
            · intro w hSw
              (try dsimp only at hSw)
              go_simp
              all_goals with_reducible rfl
            simp only [Act.put, List.setIfInBounds_toArray, List.set_cons_zero, List.set_cons_succ]
            refine wpAnyH_take (i := 18) (oi := { dst := some 109, op := Op.convert 22 9 (.tmp 108), type := 9, pos := "more.go:34", after := #[{ on := 17, ground := .data }, { on := 14, ground := .guard }], guard := some (14, true) }) (v := ?_) rfl (by kernel_rfl) (by kernel_rfl) (by kernel_rfl) (fun _ _ _ h => h) (Or.inl ⟨by rfl, ?_⟩) qS ?_
            rotate_left
            · intro w hSw
              (try dsimp only at hSw)
              go_simp
              all_goals with_reducible rfl
            simp only [Act.put, List.setIfInBounds_toArray, List.set_cons_zero, List.set_cons_succ]
            refine wpAnyH_take (i := 19) (oi := { dst := some 110, op := Op.binOp BinOp.eql 9 (.tmp 107) (.tmp 109) 9, type := 4, pos := "more.go:34", after := #[{ on := 16, ground := .data }, { on := 18, ground := .data }, { on := 14, ground := .guard }], guard := some (14, true) }) (v := ?_) rfl (by kernel_rfl) (by kernel_rfl) (by kernel_rfl) (fun _ _ _ h => h) (Or.inl ⟨by rfl, ?_⟩) qS ?_
            rotate_left
            · intro w hSw
              (try dsimp only at hSw)
              go_simp
              all_goals with_reducible rfl
            simp only [Act.put, List.setIfInBounds_toArray, List.set_cons_zero, List.set_cons_succ]
            refine wpAnyH_take (i := 20) (oi := { dst := some 111, op := Op.pick (.tmp 105) (.tmp 110) (.const (Value.bool false)), type := 4, pos := "more.go:34", after := #[{ on := 14, ground := .data }, { on := 19, ground := .data }], guard := none }) (v := ?_) rfl (by kernel_rfl) (by kernel_rfl) (by kernel_rfl) (fun _ _ _ h => h) (Or.inl ⟨by rfl, ?_⟩) qS ?_
            rotate_left
            · intro w hSw
              (try dsimp only at hSw)
              go_simp
              all_goals with_reducible rfl
            simp only [Act.put, List.setIfInBounds_toArray, List.set_cons_zero, List.set_cons_succ]
            refine wpAnyH_take (i := 21) (oi := { dst := some 112, op := Op.move (.tmp 111), type := 4, pos := "more.go:34", after := #[{ on := 20, ground := .data }, { on := 14, ground := .chain }], guard := none }) (v := ?_) rfl (by kernel_rfl) (by kernel_rfl) (by kernel_rfl) (fun _ _ _ h => h) (Or.inl ⟨by rfl, ?_⟩) qS ?_
            rotate_left
            · intro w hSw
              (try dsimp only at hSw)
              go_simp
              all_goals with_reducible rfl
            simp only [Act.put, List.setIfInBounds_toArray, List.set_cons_zero, List.set_cons_succ]
            refine wpAnyH_take (i := 22) (oi := { dst := some 113, op := Op.move (.tmp 7), type := 28, pos := "more.go:34", after := #[{ on := 21, ground := .guard }], guard := some (21, true) }) (v := ?_) rfl (by kernel_rfl) (by kernel_rfl) (by kernel_rfl) (fun _ _ _ h => h) (Or.inl ⟨by rfl, ?_⟩) qS ?_
            rotate_left
            · intro w hSw
              (try dsimp only at hSw)
              go_simp
              all_goals with_reducible rfl
            simp only [Act.put, List.setIfInBounds_toArray, List.set_cons_zero, List.set_cons_succ]
            refine wpAnyH_take (i := 25) (oi := { dst := some 116, op := Op.move (.tmp 1), type := 5, pos := "more.go:34", after := #[{ on := 21, ground := .guard }], guard := some (21, true) }) (v := ?_) rfl (by kernel_rfl) (by kernel_rfl) (by kernel_rfl) (fun _ _ _ h => h) (Or.inl ⟨by rfl, ?_⟩) qS ?_
            rotate_left
            · intro w hSw
              (try dsimp only at hSw)
              go_simp
              all_goals with_reducible rfl
            simp only [Act.put, List.setIfInBounds_toArray, List.set_cons_zero, List.set_cons_succ]
            refine H_pair2 (i := 23) (j := 26) (oi := { dst := some 114, op := Op.call { callee := Callee.value (.func 15), args := #[.tmp 113], argTypes := #[28] }, type := 22, pos := "more.go:34", after := #[{ on := 22, ground := .data }, { on := 21, ground := .chain }, { on := 21, ground := .guard }], guard := some (21, true) }) (oj := { dst := some 117, op := Op.buildSlice 22 1 #[(0, .tmp 116)], type := 22, pos := "more.go:34", after := #[{ on := 25, ground := .data }, { on := 21, ground := .guard }], guard := some (21, true) }) (by kernel_rfl) rfl rfl (fun K hK => ?_) (fun K hK => ?_)
            · go_simp
              (go_at_call 15; go_must (have HRT := up_root ((X13.out.1.below ((Below.refl _ w13).drew)).up); rw [HA.out.2.2.2.1] at HRT; refine HRT.mono ?_; clear HRT; rintro e w14 ⟨v14, rfl, hr14, _, hB14⟩; obtain ⟨a14, c14, rfl⟩ := hr14.len))
              have hX : Below w13.heap.size w13 w14 := (Below.refl _ w13).drew.trans hB14
              go_simp
              refine hK.out _ _ ⟨hX, conv_of X13.out.2 (hX), conv_of ZE.out (hX)⟩ ?_
              clear hK K
              (try simp only [Act.put, List.setIfInBounds_toArray, List.set_cons_zero, List.set_cons_succ])
              refine H_weaken (S2 := fun w' => Below w13.heap.size w13 w' ∧ Below w14.heap.size w14 w' ∧ (convert 22 9 (.slice a14 1 c14)).run Try.prog w' = .ok (.string (strB [t])) w') (fun _ h => ⟨h.1, conv_of X13.out.2 h.1, conv_of ZE.out h.1⟩) _ _ _ _ ?_
              replace qS := And.intro hX (And.intro (Below.refl w14.heap.size w14) (conv_of hr14 (Below.refl _ w14)))
              refine wpAnyH_take (i := 24) (oi := { dst := some 115, op := Op.convert 22 9 (.tmp 114), type := 9, pos := "more.go:34", after := #[{ on := 23, ground := .data }, { on := 21, ground := .guard }], guard := some (21, true) }) (v := ?_) rfl (by kernel_rfl) (by kernel_rfl) (by kernel_rfl) (fun _ _ _ h => h) (Or.inl ⟨by rfl, ?_⟩) qS ?_
              rotate_left
              · intro w hSw
                (try dsimp only at hSw)
                go_simp
                all_goals with_reducible rfl
              simp only [Act.put, List.setIfInBounds_toArray, List.set_cons_zero, List.set_cons_succ]
              refine H_one (i := 26) (o := { dst := some 117, op := Op.buildSlice 22 1 #[(0, .tmp 116)], type := 22, pos := "more.go:34", after := #[{ on := 25, ground := .data }, { on := 21, ground := .guard }], guard := some (21, true) }) (by kernel_rfl) rfl (fun K hK => ?_)
              go_simp
              have hY := below_any w14 (.cells #[.int .u8 (t.toNat : Int)] 5)
              have hZ := hX.trans (hY.mono hX.size)
              have rT := one_reads3 w14 t _ rfl
              refine hK.out _ _ ⟨hZ, hY, conv_of hr14 hY⟩ ?_
              clear hK K
              (try simp only [Act.put, List.setIfInBounds_toArray, List.set_cons_zero, List.set_cons_succ])
              refine H_weaken (S2 := fun w' => Below w13.heap.size w13 w' ∧ Below w14.heap.size w14 w' ∧ Below (w14.alloc (.cells #[.int .u8 (t.toNat : Int)] 5)).heap.size (w14.alloc (.cells #[.int .u8 (t.toNat : Int)] 5)) w' ∧ (convert 22 9 (.slice (some ⟨w14.heap.size, 0, none⟩) 1 1)).run Try.prog w' = .ok (.string (strB [t])) w') (fun _ h => ⟨h.1, h.2.1, conv_of hr14 h.2.1⟩) _ _ _ _ ?_
              replace qS := And.intro hZ (And.intro hY (And.intro (Below.refl (w14.alloc (.cells #[.int .u8 (t.toNat : Int)] 5)).heap.size (w14.alloc (.cells #[.int .u8 (t.toNat : Int)] 5))) (conv_of rT (Below.refl _ _))))
              refine wpAnyH_take (i := 27) (oi := { dst := some 118, op := Op.convert 22 9 (.tmp 117), type := 9, pos := "more.go:34", after := #[{ on := 26, ground := .data }, { on := 21, ground := .guard }], guard := some (21, true) }) (v := ?_) rfl (by kernel_rfl) (by kernel_rfl) (by kernel_rfl) (fun _ _ _ h => h) (Or.inl ⟨by rfl, ?_⟩) qS ?_
              rotate_left
              · intro w hSw
                (try dsimp only at hSw)
                go_simp
                all_goals with_reducible rfl
              simp only [Act.put, List.setIfInBounds_toArray, List.set_cons_zero, List.set_cons_succ]
              refine wpAnyH_take (i := 28) (oi := { dst := some 119, op := Op.binOp BinOp.eql 9 (.tmp 115) (.tmp 118) 9, type := 4, pos := "more.go:34", after := #[{ on := 24, ground := .data }, { on := 27, ground := .data }, { on := 21, ground := .guard }], guard := some (21, true) }) (v := ?_) rfl (by kernel_rfl) (by kernel_rfl) (by kernel_rfl) (fun _ _ _ h => h) (Or.inl ⟨by rfl, ?_⟩) qS ?_
              rotate_left
              · intro w hSw
                (try dsimp only at hSw)
                go_simp
                all_goals with_reducible rfl
              simp only [Act.put, List.setIfInBounds_toArray, List.set_cons_zero, List.set_cons_succ]
              refine wpAnyH_take (i := 29) (oi := { dst := some 120, op := Op.pick (.tmp 112) (.tmp 119) (.const (Value.bool false)), type := 4, pos := "more.go:34", after := #[{ on := 21, ground := .data }, { on := 28, ground := .data }], guard := none }) (v := ?_) rfl (by kernel_rfl) (by kernel_rfl) (by kernel_rfl) (fun _ _ _ h => h) (Or.inl ⟨by rfl, ?_⟩) qS ?_
              rotate_left
              · intro w hSw
                (try dsimp only at hSw)
                go_simp
                all_goals with_reducible rfl
              simp only [Act.put, List.setIfInBounds_toArray, List.set_cons_zero, List.set_cons_succ]
              refine wpAnyH_take (i := 30) (oi := { dst := some 4, op := Op.assign (.tmp 120), type := 4, pos := "more.go:34", after := #[{ on := 29, ground := .data }, { on := 23, ground := .chain }, { on := 0, ground := .phase }, { on := 1, ground := .phase }, { on := 2, ground := .phase }, { on := 3, ground := .phase }, { on := 4, ground := .phase }, { on := 5, ground := .phase }, { on := 6, ground := .phase }, { on := 7, ground := .phase }, { on := 8, ground := .phase }, { on := 9, ground := .phase }, { on := 10, ground := .phase }, { on := 11, ground := .phase }, { on := 12, ground := .phase }, { on := 13, ground := .phase }, { on := 14, ground := .phase }, { on := 15, ground := .phase }, { on := 16, ground := .phase }, { on := 17, ground := .phase }, { on := 18, ground := .phase }, { on := 19, ground := .phase }, { on := 20, ground := .phase }, { on := 21, ground := .phase }, { on := 22, ground := .phase }, { on := 23, ground := .phase }, { on := 24, ground := .phase }, { on := 25, ground := .phase }, { on := 26, ground := .phase }, { on := 27, ground := .phase }, { on := 28, ground := .phase }, { on := 29, ground := .phase }], guard := none }) (v := ?_) rfl (by kernel_rfl) (by kernel_rfl) (by kernel_rfl) (fun _ _ _ h => h) (Or.inl ⟨by rfl, ?_⟩) qS ?_
              rotate_left
              · intro w hSw
                (try dsimp only at hSw)
                go_simp
                all_goals with_reducible rfl
              simp only [Act.put, List.setIfInBounds_toArray, List.set_cons_zero, List.set_cons_succ]
              refine wpAnyH_done (by kernel_rfl) ?_ _
              go_wp2
              go_ret
              exact ⟨rfl, X13.out.1.bel.trans (hZ.mono X13.out.1.bel.size)⟩
            · go_simp
              have hY := below_any w13.drew (.cells #[.int .u8 (t.toNat : Int)] 5)
              have hY0 : Below w13.heap.size w13 (w13.drew.alloc (.cells #[.int .u8 (t.toNat : Int)] 5)) := (Below.refl _ w13).drew.trans hY
              have rT := one_reads3 w13.drew t _ rfl
              refine hK.out _ _ ⟨hY0, conv_of X13.out.2 (hY0), conv_of ZE.out (hY0)⟩ ?_
              clear hK K
              (try simp only [Act.put, List.setIfInBounds_toArray, List.set_cons_zero, List.set_cons_succ])
              refine H_weaken (S2 := fun w' => Below w13.heap.size w13 w' ∧ Below (w13.drew.alloc (.cells #[.int .u8 (t.toNat : Int)] 5)).heap.size (w13.drew.alloc (.cells #[.int .u8 (t.toNat : Int)] 5)) w' ∧ (convert 22 9 (.slice (some ⟨w13.heap.size, 0, none⟩) 1 1)).run Try.prog w' = .ok (.string (strB [t])) w') (fun _ h => ⟨h.1, conv_of X13.out.2 h.1, conv_of ZE.out h.1⟩) _ _ _ _ ?_
              replace qS := And.intro hY0 (And.intro (Below.refl (w13.drew.alloc (.cells #[.int .u8 (t.toNat : Int)] 5)).heap.size (w13.drew.alloc (.cells #[.int .u8 (t.toNat : Int)] 5))) (conv_of rT (Below.refl _ _)))
              refine wpAnyH_take (i := 27) (oi := { dst := some 118, op := Op.convert 22 9 (.tmp 117), type := 9, pos := "more.go:34", after := #[{ on := 26, ground := .data }, { on := 21, ground := .guard }], guard := some (21, true) }) (v := ?_) rfl (by kernel_rfl) (by kernel_rfl) (by kernel_rfl) (fun _ _ _ h => h) (Or.inl ⟨by rfl, ?_⟩) qS ?_
              rotate_left
              · intro w hSw
                (try dsimp only at hSw)
                go_simp
                all_goals with_reducible rfl
              simp only [Act.put, List.setIfInBounds_toArray, List.set_cons_zero, List.set_cons_succ]
              refine H_one (i := 23) (o := { dst := some 114, op := Op.call { callee := Callee.value (.func 15), args := #[.tmp 113], argTypes := #[28] }, type := 22, pos := "more.go:34", after := #[{ on := 22, ground := .data }, { on := 21, ground := .chain }, { on := 21, ground := .guard }], guard := some (21, true) }) (by kernel_rfl) rfl (fun K hK => ?_)
              go_simp
              (go_at_call 15; go_must (have HRT := up_root ((X13.out.1.below (hY0)).up); rw [HA.out.2.2.2.1] at HRT; refine HRT.mono ?_; clear HRT; rintro e w14 ⟨v14, rfl, hr14, _, hB14⟩; obtain ⟨a14, c14, rfl⟩ := hr14.len))
              have hX := hY0.trans (hB14.mono hY0.size)
              go_simp
              refine hK.out _ _ ⟨hX, hB14, conv_of rT hB14⟩ ?_
              clear hK K
              (try simp only [Act.put, List.setIfInBounds_toArray, List.set_cons_zero, List.set_cons_succ])
              refine H_weaken (S2 := fun w' => Below w13.heap.size w13 w' ∧ Below (w13.drew.alloc (.cells #[.int .u8 (t.toNat : Int)] 5)).heap.size (w13.drew.alloc (.cells #[.int .u8 (t.toNat : Int)] 5)) w' ∧ Below w14.heap.size w14 w' ∧ (convert 22 9 (.slice a14 1 c14)).run Try.prog w' = .ok (.string (strB [t])) w') (fun _ h => ⟨h.1, h.2.1, conv_of rT h.2.1⟩) _ _ _ _ ?_
              replace qS := And.intro hX (And.intro hB14 (And.intro (Below.refl w14.heap.size w14) (conv_of hr14 (Below.refl _ w14))))
              refine wpAnyH_take (i := 24) (oi := { dst := some 115, op := Op.convert 22 9 (.tmp 114), type := 9, pos := "more.go:34", after := #[{ on := 23, ground := .data }, { on := 21, ground := .guard }], guard := some (21, true) }) (v := ?_) rfl (by kernel_rfl) (by kernel_rfl) (by kernel_rfl) (fun _ _ _ h => h) (Or.inl ⟨by rfl, ?_⟩) qS ?_
              rotate_left
              · intro w hSw
                (try dsimp only at hSw)
                go_simp
                all_goals with_reducible rfl
              simp only [Act.put, List.setIfInBounds_toArray, List.set_cons_zero, List.set_cons_succ]
              refine wpAnyH_take (i := 28) (oi := { dst := some 119, op := Op.binOp BinOp.eql 9 (.tmp 115) (.tmp 118) 9, type := 4, pos := "more.go:34", after := #[{ on := 24, ground := .data }, { on := 27, ground := .data }, { on := 21, ground := .guard }], guard := some (21, true) }) (v := ?_) rfl (by kernel_rfl) (by kernel_rfl) (by kernel_rfl) (fun _ _ _ h => h) (Or.inl ⟨by rfl, ?_⟩) qS ?_
              rotate_left
              · intro w hSw
                (try dsimp only at hSw)
                go_simp
                all_goals with_reducible rfl
              simp only [Act.put, List.setIfInBounds_toArray, List.set_cons_zero, List.set_cons_succ]
              refine wpAnyH_take (i := 29) (oi := { dst := some 120, op := Op.pick (.tmp 112) (.tmp 119) (.const (Value.bool false)), type := 4, pos := "more.go:34", after := #[{ on := 21, ground := .data }, { on := 28, ground := .data }], guard := none }) (v := ?_) rfl (by kernel_rfl) (by kernel_rfl) (by kernel_rfl) (fun _ _ _ h => h) (Or.inl ⟨by rfl, ?_⟩) qS ?_
              rotate_left
              · intro w hSw
                (try dsimp only at hSw)
                go_simp
                all_goals with_reducible rfl
              simp only [Act.put, List.setIfInBounds_toArray, List.set_cons_zero, List.set_cons_succ]
              refine wpAnyH_take (i := 30) (oi := { dst := some 4, op := Op.assign (.tmp 120), type := 4, pos := "more.go:34", after := #[{ on := 29, ground := .data }, { on := 23, ground := .chain }, { on := 0, ground := .phase }, { on := 1, ground := .phase }, { on := 2, ground := .phase }, { on := 3, ground := .phase }, { on := 4, ground := .phase }, { on := 5, ground := .phase }, { on := 6, ground := .phase }, { on := 7, ground := .phase }, { on := 8, ground := .phase }, { on := 9, ground := .phase }, { on := 10, ground := .phase }, { on := 11, ground := .phase }, { on := 12, ground := .phase }, { on := 13, ground := .phase }, { on := 14, ground := .phase }, { on := 15, ground := .phase }, { on := 16, ground := .phase }, { on := 17, ground := .phase }, { on := 18, ground := .phase }, { on := 19, ground := .phase }, { on := 20, ground := .phase }, { on := 21, ground := .phase }, { on := 22, ground := .phase }, { on := 23, ground := .phase }, { on := 24, ground := .phase }, { on := 25, ground := .phase }, { on := 26, ground := .phase }, { on := 27, ground := .phase }, { on := 28, ground := .phase }, { on := 29, ground := .phase }], guard := none }) (v := ?_) rfl (by kernel_rfl) (by kernel_rfl) (by kernel_rfl) (fun _ _ _ h => h) (Or.inl ⟨by rfl, ?_⟩) qS ?_
              rotate_left
              · intro w hSw
                (try dsimp only at hSw)
                go_simp
                all_goals with_reducible rfl
              simp only [Act.put, List.setIfInBounds_toArray, List.set_cons_zero, List.set_cons_succ]
              refine wpAnyH_done (by kernel_rfl) ?_ _
              go_wp2
              go_ret
              exact ⟨rfl, X13.out.1.bel.trans (hX.mono X13.out.1.bel.size)⟩
end Go.Proofs.Ytjbomdhlfjcgmaa
