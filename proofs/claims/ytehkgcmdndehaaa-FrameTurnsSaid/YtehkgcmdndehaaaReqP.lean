import Derived.Test.YtehkgcmdndehaaaReqE
import Derived.Deep.RegionLaw
namespace Go.Proofs.Ytehkgcmdndehaaa
set_option linter.unusedSimpArgs false
set_option linter.unusedVariables false
open Go.RowKit

set_option maxHeartbeats 3200000 in
set_option maxRecDepth 100000 in
theorem fr_enc_plan (q : ReqD) (w : World) (hk : kindB q.kind = true) (h16 : q.kind = 16) (hl : q.long = false) :
    Calls Try.prog 13 #[q.value] w (EncOk w q.bytes) := by
  have hkey : ¬ (255 : Int) < (q.key.size : Int) := by have := hl; unfold ReqD.long at this; simp [longB] at this; omega
  have HT : Hid (q.texts.any longB = false) := Lib.hid (by rw [show q.texts = [] by unfold ReqD.texts; simp [h16]]; rfl)
  have HTP : Hid ([q.plan.name].any longB = false) := Lib.hid (by have := hl; unfold ReqD.long at this; simp only [Bool.or_eq_false_iff, if_pos h16] at this; exact this.2)
  have HPL : q.plan.name.size ≤ 255 := by have := HTP.out; simp [longB] at this; omega
  have HFit : Hid (Fits q.bytes.length) := Lib.hid (by have := bytes_fit q hl; unfold Fits; omega)
  have HB : Hid (q.bytes = byteOf q.kind :: encText q.key ++ encInts q.nums ++ encTexts q.texts ++ encInts q.more ++ encPlan q.plan) := Lib.hid (by rw [ReqD.bytes, if_pos h16])
  have H16 := Lib.hid h16
  have hke : (q.kind == 16) = true := by simp [h16]
  clear h16
  clear hl
  unfold ReqD.value
  go_enter Try.func13, Try.ntmps13
  go_upto_region 1 with (fail)
  go_step
  refine wpList_load_row rfl 25 _ rfl w.heap.size rfl 25 _ (0,0) _ (heap_alloc_new _ _) Try.underlying25 (by kernel_rfl) (by kernel_rfl) ?_
  refine wpList_build_at _ rfl 74 _ rfl q.row (by kernel_rfl) ?_
  have h2 : q.row[2]? = some (.int .i64 q.kind) := rfl
  go_wp2_with (go_at_call 33; refine (fr_kind _ _).mono ?_; rintro e w' ⟨rfl, rfl⟩)
  have hB0 := below_alloc2 w (.cells q.cells 25) (.cells q.row 74)
  have hblk := heap_alloc2_new w (.cells q.cells 25) (.cells q.row 74)
  generalize (w.alloc (.cells q.cells 25)).alloc (.cells q.row 74) = W at *
  have hrl : w.heap.size < w.heap.size + 1 := by omega
  generalize w.heap.size + 1 = rb at *
  clear h2
  have HC : Hid (∀ o v, q.row[o]? = some v → W.cell? ⟨rb, o, none⟩ = some v) := fun o v h => by rw [cell_of_row W _ _ _ _ _ hblk]; exact h
  have HF : Hid (∀ o, W.frozen? ⟨rb, o, none⟩ = false) := fun o => frozen_of_row W _ _ _ _ hblk
  have hrW : rb < W.heap.size := (Array.getElem?_eq_some_iff.1 hblk).1
  clear hblk
  have h2 : W.cell? ⟨rb, 2, none⟩ = some (.int .i64 q.kind) := HC.out 2 _ rfl
  have h3 : W.cell? ⟨rb, 3, none⟩ = some (.string q.key) := HC.out 3 _ rfl
  refine (fr_texts rb q.kind W h2).mono ?_
  rintro e w1 ⟨ao, rfl, hB1, hP1⟩
  clear hP1
  have hsz1 := hB1.size
  have h2' := (hB1.cell (p := ⟨rb, 2, none⟩) hrW).trans h2
  have h3' := (hB1.cell (p := ⟨rb, 3, none⟩) hrW).trans h3
  have hr0 : RowAt w1 rb (.slice none 0 0) [] := ⟨(hB1.cell (p := ⟨rb, 0, none⟩) hrW).trans (show W.cell? _ = some (.slice none 0 0) from HC.out 0 _ rfl), (hB1.frozen (p := ⟨rb, 0, none⟩) hrW).trans (HF.out 0), World.ownsRow_nil _ _ _ _⟩
  have HR0 := Lib.hid hr0
  clear hr0 h2 h3
  have hrw0 : rb < w1.heap.size := by omega
  have hne0 : w1.heap.size ≠ rb := by omega
  go_wp2_with fail
  have HTx : TextsAt (w1.alloc (.cells #[.pointer (some ⟨rb, 10, none⟩)] 78)) (some ⟨w1.heap.size, 0, none⟩) [q.plan.name] := fun k s hs => by
    match k, hs with
    | 0, hs =>
      cases hs
      exact ⟨w1.heap.size, ⟨rb, 10, none⟩, rfl, by rw [World.cell?_alloc_at _ _ _ _ rfl]; rfl, by rw [World.cell?_alloc_past _ _ _ (by show rb < _; omega)]; exact (hB1.cell (p := ⟨rb, 10, none⟩) hrW).trans (show W.cell? _ = some (.string q.plan.name) from HC.out 10 _ rfl)⟩
    | _ + 1, hs => simp at hs
  refine (fr_contains (some ⟨w1.heap.size, 0, none⟩) [q.plan.name] 1 _ (by simp) HTx).mono ?_
  rintro e w' ⟨rfl, rfl⟩
  clear HTx
  rw [HTP.out]
  have hr0' := HR0.out.alloc (o := .cells #[.pointer (some ⟨rb, 10, none⟩)] 78) (by omega)
  have HR0 := Lib.hid hr0'
  clear hr0'
  replace hB1 := hB1.alloc hsz1 (.cells #[.pointer (some ⟨rb, 10, none⟩)] 78)
  generalize hw1 : w1.alloc (.cells #[.pointer (some ⟨rb, 10, none⟩)] 78) = w1' at *
  clear hw1 h2' h3'
  obtain ⟨w1, rfl⟩ : ∃ x : World, x = w1' := ⟨_, rfl⟩
  have hsz1 := hB1.size
  have h2' : w1.cell? ⟨rb, 2, none⟩ = some (.int .i64 q.kind) := (hB1.cell (p := ⟨rb, 2, none⟩) hrW).trans (HC.out 2 _ rfl)
  have h3' : w1.cell? ⟨rb, 3, none⟩ = some (.string q.key) := (hB1.cell (p := ⟨rb, 3, none⟩) hrW).trans (HC.out 3 _ rfl)
  go_wp2
  have hrw1 : rb < w1.heap.size := by omega
  have hf1 : Fits (([] : List UInt8).length + 1) := fits_of _ (by simp)
  have HCW : Hid (∀ o v, q.row[o]? = some v → w1.cell? ⟨rb, o, none⟩ = some v) := fun o v h => (hB1.cell (p := ⟨rb, o, none⟩) hrW).trans (HC.out o v h)
  clear HC HF
  go_region_with (go_at_call 37; go_must (refine (frow_byte rb _ [] q.kind _ HR0.out.drew (by simpa using hrw1) hf1).mono ?_); rintro e w2 ⟨v2, rfl, hrow2, hput2⟩)
  have P2 := Lib.hid hput2.undrew
  have R2 := Lib.hid hrow2
  have hs2 : w1.heap.size ≤ w2.heap.size := P2.out.size
  have hr2 : rb < w2.heap.size := by omega
  have k3 : w2.cell? ⟨rb, 3, none⟩ = some (.string q.key) := (P2.out.row 3 (by decide)).trans h3'
  clear hput2 hrow2 h2' h3'
  go_wp2
  have hf2 : Fits (([] ++ [byteOf q.kind]).length + (encTexts [q.key]).length) := fits_of _ (by simp [encTexts, encText_length]; omega)
  go_region_with (go_at_call 38; go_must (refine (frow_texts rb w2.heap.size 1 _ _ v2 _ [q.key] w2 _ R2.out hr2 hf2 (by simp) rfl (below_alloc _ _).drew (Nat.le_refl _) (heap_alloc_new _ _) rfl).mono ?_); rintro e w3 ⟨v3, rfl, hrow3, hput3⟩)
  all_goals have hsz3 := hput3.size
  all_goals have hrw3 : rb < w3.heap.size := by omega
  all_goals generalize hz3 : [] ++ [byteOf q.kind] ++ encTexts [q.key] = z3 at *
  all_goals have hlen3 : z3.length ≤ 257 := by rw [← hz3]; simp [encTexts, encText_length]; omega
  all_goals have Z3 := Lib.hid hz3
  all_goals have R3 := Lib.hid hrow3
  all_goals have P3 := Lib.hid (P2.out.trans hput3)
  all_goals clear hrow3 hput3 hz3 R2 P2 hs2 hr2 k3 hsz3 hf2 hf1
  all_goals go_wp2_with fail
  refine (fr_numbers rb q.kind w3 ((P3.out.row 2 (by decide)).trans (HCW.out 2 _ rfl))).mono ?_
  rintro e w4 ⟨aow4, rfl, hBw4, hPw4⟩
  have NP := nums_places q
  have HN := Lib.hid (And.intro NP hPw4)
  have HSh := Lib.hid (nums_short q)
  rw [NP.1]
  clear NP hPw4
  have hsw4 := hBw4.size
  have hrw4 : rb < w4.heap.size := by omega
  have RB := Lib.hid (R3.out.of_below hrw3 hBw4)
  have PB := Lib.hid (P3.out.trans (Puts.of_below hBw4 hrw3))
  have ownA : Hid (∀ k, (v3).ownBlock = some k → k < w3.heap.size) := Lib.hid (fun k h => (R3.out.own.lt k h).2)
  go_wp2
  go_loopg [7, 69] q.nums.length (fun g sp si wr => ∃ (k : Nat) (vr : Value), k + g = q.nums.length ∧ si = .int .i64 k ∧ RowAt wr rb vr (z3 ++ encInts (q.nums.take k)) ∧ Puts w4 wr rb (v3) vr)
  case atStart => exact ⟨0, v3, by omega, rfl, by simpa [encInts] using RB.out, Puts.refl _ _ _⟩
  case round =>
    obtain ⟨k, vr, hkg, rfl, hrow, hput⟩ := hrel
    have hsz := hput.size
    cases gk with
    | zero =>
      have hk : ¬ ((k : Int) < (q.nums.length : Int)) := by omega
      have Rw5 := Lib.hid (show RowAt wr rb vr (z3 ++ encInts q.nums) by have := hrow; rwa [List.take_of_length_le (by omega)] at this)
      have Pw5 := Lib.hid (PB.out.trans hput)
      clear hrow hput RB PB HN HSh ownA
      have hrw5 : rb < wr.heap.size := by omega
      obtain ⟨w5, rfl⟩ : ∃ x : World, x = wr := ⟨_, rfl⟩
      obtain ⟨vw5, rfl⟩ : ∃ x : Value, x = vr := ⟨_, rfl⟩
      clear hsz
      generalize hzw5 : z3 ++ encInts q.nums = z5 at *
      have hlenw5 : z5.length ≤ 300 := by rw [← hzw5, List.length_append]; have h1 := encInts_length q.nums; have h2 := nums_short q; omega
      have Zw5 := Lib.hid hzw5
      clear hzw5
      go_wp2_with fail
      refine (fr_texts rb q.kind w5 ((Pw5.out.row 2 (by decide)).trans (HCW.out 2 _ rfl))).mono ?_
      rintro e w6 ⟨aow6, rfl, hBw6, hPw6⟩
      have NP := texts_places q
      have HN := Lib.hid (And.intro NP hPw6)
      have HSh := Lib.hid (texts_short q)
      rw [NP.1]
      clear NP hPw6
      have hsw6 := hBw6.size
      have hrw6 : rb < w6.heap.size := by omega
      have RB := Lib.hid (Rw5.out.of_below hrw5 hBw6)
      have PB := Lib.hid (Pw5.out.trans (Puts.of_below hBw6 hrw5))
      have ownA : Hid (∀ k, (vw5).ownBlock = some k → k < w5.heap.size) := Lib.hid (fun k h => (Rw5.out.own.lt k h).2)
      go_wp2
      go_loopg [9, 85] q.texts.length (fun g sp si wr => ∃ (k : Nat) (vr : Value), k + g = q.texts.length ∧ si = .int .i64 k ∧ RowAt wr rb vr (z5 ++ encTexts (q.texts.take k)) ∧ Puts w6 wr rb (vw5) vr)
      case atStart => exact ⟨0, vw5, by omega, rfl, by simpa [encTexts] using RB.out, Puts.refl _ _ _⟩
      case round =>
        obtain ⟨k, vr, hkg, rfl, hrow, hput⟩ := hrel
        have hsz := hput.size
        cases gk with
        | zero =>
          have hk : ¬ ((k : Int) < (q.texts.length : Int)) := by omega
          have Rw7 := Lib.hid (show RowAt wr rb vr (z5 ++ encTexts q.texts) by have := hrow; rwa [List.take_of_length_le (by omega)] at this)
          have Pw7 := Lib.hid (PB.out.trans hput)
          clear hrow hput RB PB HN HSh ownA
          have hrw7 : rb < wr.heap.size := by omega
          obtain ⟨w7, rfl⟩ : ∃ x : World, x = wr := ⟨_, rfl⟩
          obtain ⟨vw7, rfl⟩ : ∃ x : Value, x = vr := ⟨_, rfl⟩
          clear hsz
          generalize hzw7 : z5 ++ encTexts q.texts = z7 at *
          have hlenw7 : z7.length ≤ 1100 := by rw [← hzw7, List.length_append]; have h1 := encTexts_short q.texts HT.out; have h2 := texts_short q; omega
          have Zw7 := Lib.hid hzw7
          clear hzw7
          go_wp2_with fail
          refine (fr_more rb q.kind w7 ((Pw7.out.row 2 (by decide)).trans (HCW.out 2 _ rfl))).mono ?_
          rintro e w8 ⟨aow8, rfl, hBw8, hPw8⟩
          have NP := more_places q
          have HN := Lib.hid (And.intro NP hPw8)
          have HSh := Lib.hid (more_short q)
          rw [NP.1]
          clear NP hPw8
          have hsw8 := hBw8.size
          have hrw8 : rb < w8.heap.size := by omega
          have RB := Lib.hid (Rw7.out.of_below hrw7 hBw8)
          have PB := Lib.hid (Pw7.out.trans (Puts.of_below hBw8 hrw7))
          have ownA : Hid (∀ k, (vw7).ownBlock = some k → k < w7.heap.size) := Lib.hid (fun k h => (Rw7.out.own.lt k h).2)
          go_wp2
          go_loopg [11, 101] q.more.length (fun g sp si wr => ∃ (k : Nat) (vr : Value), k + g = q.more.length ∧ si = .int .i64 k ∧ RowAt wr rb vr (z7 ++ encInts (q.more.take k)) ∧ Puts w8 wr rb (vw7) vr)
          case atStart => exact ⟨0, vw7, by omega, rfl, by simpa [encInts] using RB.out, Puts.refl _ _ _⟩
          case round =>
            obtain ⟨k, vr, hkg, rfl, hrow, hput⟩ := hrel
            have hsz := hput.size
            cases gk with
            | zero =>
              have hk : ¬ ((k : Int) < (q.more.length : Int)) := by omega
              have Rw9 := Lib.hid (show RowAt wr rb vr (z7 ++ encInts q.more) by have := hrow; rwa [List.take_of_length_le (by omega)] at this)
              have Pw9 := Lib.hid (PB.out.trans hput)
              clear hrow hput RB PB HN HSh ownA
              have hrw9 : rb < wr.heap.size := by omega
              obtain ⟨w9, rfl⟩ : ∃ x : World, x = wr := ⟨_, rfl⟩
              obtain ⟨vw9, rfl⟩ : ∃ x : Value, x = vr := ⟨_, rfl⟩
              clear hsz
              obtain ⟨i0, hi, hz0, hz1, hz2⟩ := info_parts infoU8
              have h20 : w9.cell? ⟨rb, 0, none⟩ = some vw9 := Rw9.out.cell
              have k2 : w9.cell? ⟨rb, 2, none⟩ = some (.int .i64 q.kind) := (Pw9.out.row 2 (by decide)).trans (HCW.out 2 _ rfl)
              have k10 : w9.cell? ⟨rb, 10, none⟩ = some (.string q.plan.name) := (Pw9.out.row 10 (by decide)).trans (HCW.out 10 _ rfl)
              have k11 : w9.cell? ⟨rb, 11, none⟩ = some (.int .i64 q.plan.version) := (Pw9.out.row 11 (by decide)).trans (HCW.out 11 _ rfl)
              have k12 : w9.cell? ⟨rb, 12, none⟩ = some (.int .i64 q.plan.allowance) := (Pw9.out.row 12 (by decide)).trans (HCW.out 12 _ rfl)
              have k13 : w9.cell? ⟨rb, 13, none⟩ = some (.int .i64 q.plan.kind) := (Pw9.out.row 13 (by decide)).trans (HCW.out 13 _ rfl)
              have k14 : w9.cell? ⟨rb, 14, none⟩ = some (.int .i64 q.plan.anchor) := (Pw9.out.row 14 (by decide)).trans (HCW.out 14 _ rfl)
              have k15 : w9.cell? ⟨rb, 15, none⟩ = some (.int .i64 q.plan.days) := (Pw9.out.row 15 (by decide)).trans (HCW.out 15 _ rfl)
              have k16 : w9.cell? ⟨rb, 16, none⟩ = some (.int .i64 q.plan.cap) := (Pw9.out.row 16 (by decide)).trans (HCW.out 16 _ rfl)
              have k17 : w9.cell? ⟨rb, 17, none⟩ = some (.int .i64 q.plan.mode) := (Pw9.out.row 17 (by decide)).trans (HCW.out 17 _ rfl)
              have k18 : w9.cell? ⟨rb, 18, none⟩ = some (.int .i64 q.plan.burst) := (Pw9.out.row 18 (by decide)).trans (HCW.out 18 _ rfl)
              have k19 : w9.cell? ⟨rb, 19, none⟩ = some (.int .i64 q.plan.rate) := (Pw9.out.row 19 (by decide)).trans (HCW.out 19 _ rfl)
              clear HCW
              have hpl := encPlan_length q.plan
              have hfp : Fits (encPlan q.plan).length := fits_of _ (by omega)
              have hmore := encInts_length q.more
              have hms := more_short q
              generalize hz9 : z7 ++ encInts q.more = z9 at *
              have hlen9 : z9.length ≤ 1200 := by rw [← hz9, List.length_append]; omega
              have Z9 := Lib.hid hz9
              have hfit9 : Fits (z9.length + (encPlan q.plan).length) := fits_of _ (by omega)
              have hpp : 0 < (encPlan q.plan).length := by omega
              have HOWN := Lib.hid Rw9.out.own
              have hne9 : w9.heap.size ≠ rb := by omega
              clear hz9 hmore hpl
              go_wp2
              go_region_law (first
                | (go_simp; go_at_call 42; refine (rr_encodePlan q.plan _ hfp).mono ?_
                   rintro e w10 ⟨vp, rfl, hownp, hBp'⟩
                   have hBp : Below w9.heap.size w9 w10 := (Below.refl _ _).drew.trans hBp'
                   obtain ⟨gp, capp, rfl, hgp1, hgp2⟩ := hownp.form hpp
                   have k0p : w10.cell? ⟨rb, 0, none⟩ = some vw9 := (hBp.cell (p := ⟨rb, 0, none⟩) hrw9).trans h20
                   have hsz10 := hBp.size)
                | (go_must (refine step_append_lies _ rfl (.tmp 125) (.tmp 131) 28 rfl (rb + 1) 5 i0 (.int .u8 0) 1 1 Try.underlying28 hi hz0 hz1 hz2 rfl (by decide) vw9 _ _ rfl (HOWN.out.kept (row := none) ⟨hBp.os, hBp.tape, hBp.output, hBp.size, fun k hk _ => hBp.block k hk⟩ (by cases hv : vw9.ownBlock <;> simp)) ⟨gp, 0, none⟩ _ capp (bcells (encPlan q.plan)) rfl (by simp [bcells_length]) (hownp.cells (g := gp) rfl) (bcells_oneCell _) hpp hfit9.max hfit9.reach (by omega) _ rfl ?_)
                   intro g' cap w11 hown11 hgrow11 hg11 hlt11
                   obtain ⟨k0', e0', fin⟩ := row_grown (v' := .slice (some ⟨g', 0, none⟩) (z9.length + (encPlan q.plan).length) cap) (ys := encPlan q.plan) Rw9.out hrw9 hBp hgrow11
                   have F := Lib.hid (fin hown11 (own_of_lies hg11 (by omega)))
                   clear fin hown11))
              all_goals go_wp2
              all_goals go_ret2
              all_goals
                refine ⟨_, rfl, ?_, ?_⟩
                · have e : z9 ++ encPlan q.plan = q.bytes := by
                    rw [HB.out, ← Z9.out, ← Zw7.out, ← Zw5.out, ← Z3.out]
                    simp [encTexts]
                  have := F.out.1.own
                  rw [e] at this
                  exact ownsRow_base this (by omega)
                · exact (Pw9.out.trans F.out.2).below_new rfl (hB0.trans (hB1.mono (by have := hB0.size; omega))) (by omega) (by have := hB0.size; omega)
            | succ g =>
              have hk : (k : Int) < (q.more.length : Int) := by omega
              obtain ⟨n, hn⟩ : ∃ n : Int, q.more[k]? = some n := ⟨_, List.getElem?_eq_getElem (by omega)⟩
              obtain ⟨o, ho⟩ : ∃ o, (moreOffs q.kind)[k]? = some o := ⟨_, List.getElem?_eq_getElem (by rw [HN.out.1.1]; omega)⟩
              obtain ⟨nb, rfl, hnb1, hnb2, hcp⟩ := HN.out.2 k o ho
              obtain ⟨hco, ho0⟩ := HN.out.1.2 k o n ho hn
              have hcp' := (hput.cell (a := ⟨nb, k, none⟩) hnb2 (by show nb ≠ rb; omega) (fun e => by have := ownA.out nb e; omega)).trans hcp
              have hcn : wr.cell? ⟨rb, o, none⟩ = some (.int .i64 n) := ((PB.out.trans hput).row o ho0).trans (HCW.out o _ hco)
              have hrb : rb < wr.heap.size := by omega
              have HTk := Lib.hid (encInts_take q.more k n hn)
              have hfit : Fits ((z7 ++ encInts (q.more.take k)).length + 8 * [n].length) := fits_of _ (by have h1 := encInts_take_length q.more k; have h2 := HSh.out; rw [List.length_append, List.length_singleton]; omega)
              have HR2 := Lib.hid (And.intro hrow hput)
              have HKG := Lib.hid hkg
              have hk10 : k < 10 := by have := HSh.out; omega
              clear hrow hput hn hcp ho hco
              go_wp2
              go_region_with (go_at_call 40; go_must (refine (frow_ints rb wr.heap.size 1 _ _ vr _ [n] wr _ HR2.out.1 hrb hfit (by simp) rfl (below_alloc _ _).drew (Nat.le_refl _) (heap_alloc_new _ _) rfl).mono ?_); rintro e w3 ⟨v3, rfl, hrow3, hput3⟩)
              all_goals have X := Lib.hid (And.intro hrow3 hput3)
              all_goals clear hrow3 hput3
              all_goals go_wp2
              all_goals go_roundg g
              all_goals first
                | (case measure => omega)
                | skip
              all_goals
                refine ⟨k + 1, _, by have := HKG.out; omega, by first | rfl | go_num, ?_, HR2.out.2.trans X.out.2⟩
                rw [HTk.out, ← List.append_assoc]
                have := X.out.1
                simpa [encInts] using this
        | succ g =>
          have hk : (k : Int) < (q.texts.length : Int) := by omega
          obtain ⟨n, hn⟩ : ∃ n : ByteArray, q.texts[k]? = some n := ⟨_, List.getElem?_eq_getElem (by omega)⟩
          obtain ⟨o, ho⟩ : ∃ o, (textOffs q.kind)[k]? = some o := ⟨_, List.getElem?_eq_getElem (by rw [HN.out.1.1]; omega)⟩
          obtain ⟨nb, rfl, hnb1, hnb2, hcp⟩ := HN.out.2 k o ho
          obtain ⟨hco, ho0⟩ := HN.out.1.2 k o n ho hn
          have hcp' := (hput.cell (a := ⟨nb, k, none⟩) hnb2 (by show nb ≠ rb; omega) (fun e => by have := ownA.out nb e; omega)).trans hcp
          have hcn : wr.cell? ⟨rb, o, none⟩ = some (.string n) := ((PB.out.trans hput).row o ho0).trans (HCW.out o _ hco)
          have hrb : rb < wr.heap.size := by omega
          have HTk := Lib.hid (encTexts_take q.texts k n hn)
          have hfit : Fits ((z5 ++ encTexts (q.texts.take k)).length + (encTexts [n]).length) := fits_of _ (by have h1 := encTexts_take_le q.texts (k + 1); rw [encTexts_take q.texts k n hn, List.length_append] at h1; have h2 := encTexts_short q.texts HT.out; have h3 := HSh.out; rw [show encTexts [n] = encText n by simp [encTexts], List.length_append]; omega)
          have HR2 := Lib.hid (And.intro hrow hput)
          have HKG := Lib.hid hkg
          have hk10 : k < 10 := by have := HSh.out; omega
          clear hrow hput hn hcp ho hco
          go_wp2
          go_region_with (go_at_call 38; go_must (refine (frow_texts rb wr.heap.size 1 _ _ vr _ [n] wr _ HR2.out.1 hrb hfit (by simp) rfl (below_alloc _ _).drew (Nat.le_refl _) (heap_alloc_new _ _) rfl).mono ?_); rintro e w3 ⟨v3, rfl, hrow3, hput3⟩)
          all_goals have X := Lib.hid (And.intro hrow3 hput3)
          all_goals clear hrow3 hput3
          all_goals go_wp2
          all_goals go_roundg g
          all_goals first
            | (case measure => omega)
            | skip
          all_goals
            refine ⟨k + 1, _, by have := HKG.out; omega, by first | rfl | go_num, ?_, HR2.out.2.trans X.out.2⟩
            rw [HTk.out, ← List.append_assoc]
            have := X.out.1
            simpa [encTexts] using this
    | succ g =>
      have hk : (k : Int) < (q.nums.length : Int) := by omega
      obtain ⟨n, hn⟩ : ∃ n : Int, q.nums[k]? = some n := ⟨_, List.getElem?_eq_getElem (by omega)⟩
      obtain ⟨o, ho⟩ : ∃ o, (numOffs q.kind)[k]? = some o := ⟨_, List.getElem?_eq_getElem (by rw [HN.out.1.1]; omega)⟩
      obtain ⟨nb, rfl, hnb1, hnb2, hcp⟩ := HN.out.2 k o ho
      obtain ⟨hco, ho0⟩ := HN.out.1.2 k o n ho hn
      have hcp' := (hput.cell (a := ⟨nb, k, none⟩) hnb2 (by show nb ≠ rb; omega) (fun e => by have := ownA.out nb e; omega)).trans hcp
      have hcn : wr.cell? ⟨rb, o, none⟩ = some (.int .i64 n) := ((PB.out.trans hput).row o ho0).trans (HCW.out o _ hco)
      have hrb : rb < wr.heap.size := by omega
      have HTk := Lib.hid (encInts_take q.nums k n hn)
      have hfit : Fits ((z3 ++ encInts (q.nums.take k)).length + 8 * [n].length) := fits_of _ (by have h1 := encInts_take_length q.nums k; have h2 := HSh.out; rw [List.length_append, List.length_singleton]; omega)
      have HR2 := Lib.hid (And.intro hrow hput)
      have HKG := Lib.hid hkg
      have hk10 : k < 10 := by have := HSh.out; omega
      clear hrow hput hn hcp ho hco
      go_wp2
      go_region_with (go_at_call 40; go_must (refine (frow_ints rb wr.heap.size 1 _ _ vr _ [n] wr _ HR2.out.1 hrb hfit (by simp) rfl (below_alloc _ _).drew (Nat.le_refl _) (heap_alloc_new _ _) rfl).mono ?_); rintro e w3 ⟨v3, rfl, hrow3, hput3⟩)
      all_goals have X := Lib.hid (And.intro hrow3 hput3)
      all_goals clear hrow3 hput3
      all_goals go_wp2
      all_goals go_roundg g
      all_goals first
        | (case measure => omega)
        | skip
      all_goals
        refine ⟨k + 1, _, by have := HKG.out; omega, by first | rfl | go_num, ?_, HR2.out.2.trans X.out.2⟩
        rw [HTk.out, ← List.append_assoc]
        have := X.out.1
        simpa [encInts] using this

end Go.Proofs.Ytehkgcmdndehaaa
