import Derived.Test.YtehkgcmdndehaaaRefPl
import Derived.Test.YtehkgcmdndehaaaReqE
import Derived.Test.YtehkgcmdndehaaaRefF
import Derived.Test.YtehkgcmdndehaaaApB
import Derived.Deep.RegionHeld3
import Derived.Deep.RegionWith
import Derived.Deep.MidRow
namespace Go.Proofs.Ytehkgcmdndehaaa
set_option linter.unusedSimpArgs false
set_option linter.unusedVariables false
open Go.RowKit

/-- Bytes that grow beside a block bb with a request; they are L at most. -/
structure ReqW (W0 w : World) (base bb : Nat) (v0 v : Value) (xs : List UInt8) (q : ReqD) (L : Nat) : Prop where
  own : OwnB w base v xs
  grew : Grew W0 w v0 v
  lt : bb < W0.heap.size
  ne : v0.ownBlock ≠ some bb
  b0 : base ≤ W0.heap.size
  cells : ∀ o u, q.cells[o]? = some u → w.cell? ⟨bb, o, none⟩ = some u
  le : xs.length ≤ L
def ReqWPost (W0 : World) (base bb : Nat) (v0 : Value) (xs : List UInt8) (q : ReqD) (L : Nat) (e : Ending) (w' : World) : Prop := ∃ v', e = .returned v' ∧ ReqW W0 w' base bb v0 v' xs q L
theorem ReqW.grow {W0 w w' : World} {base bb : Nat} {v0 v v' : Value} {xs ys : List UInt8} {q : ReqD} {L M : Nat} (h : ReqW W0 w base bb v0 v xs q L) (ho : OwnB w' base v' ys) (hg : Grew w w' v v') (hl : ys.length ≤ M) : ReqW W0 w' base bb v0 v' ys q M :=
  ⟨ho, h.grew.trans hg, h.lt, h.ne, h.b0, fun o u hu => (hg.cell (a := ⟨bb, o, none⟩) (Nat.lt_of_lt_of_le h.lt h.grew.size) (h.grew.other h.lt h.ne)).trans (h.cells o u hu), hl⟩
theorem Grew.drew {w w' : World} {v v' : Value} (h : Grew w w' v v') : Grew w w'.drew v v' := ⟨h.os, h.tape, h.output, h.size, h.block, h.new⟩
theorem ReqW.drew {W0 w : World} {base bb : Nat} {v0 v : Value} {xs : List UInt8} {q : ReqD} {L : Nat} (h : ReqW W0 w base bb v0 v xs q L) : ReqW W0 w.drew base bb v0 v xs q L :=
  ⟨h.own, h.grew.drew, h.lt, h.ne, h.b0, h.cells, h.le⟩
theorem rqw_int {W0 w : World} {base bb : Nat} {v0 v : Value} {xs : List UInt8} {q : ReqD} {L : Nat} (n : Int) (h : ReqW W0 w base bb v0 v xs q L) (hL : L ≤ 10000) :
    Calls Try.prog 55 #[v, .int .i64 n] w (ReqWPost W0 base bb v0 (xs ++ encInt n) q (L + 8)) := by
  have hle := h.le
  refine (ref_int base v xs n w h.own (Nat.le_trans h.b0 h.grew.size) (fits_of _ (by omega))).mono ?_
  rintro e w' ⟨v', rfl, ho, hg⟩
  exact ⟨v', rfl, h.grow ho hg (by rw [List.length_append, encInt_length]; omega)⟩
theorem rqw_text {W0 w : World} {base bb : Nat} {v0 v : Value} {xs : List UInt8} {q : ReqD} {L : Nat} (s : ByteArray) (h : ReqW W0 w base bb v0 v xs q L) (hs : s.size ≤ 255) (hL : L ≤ 10000) :
    Calls Try.prog 54 #[v, .string s] w (ReqWPost W0 base bb v0 (xs ++ encText s) q (L + 256)) := by
  have hle := h.le
  refine (ref_wtext base v xs s w h.own (Nat.le_trans h.b0 h.grew.size) (fits_of _ (by omega))).mono ?_
  rintro e w' ⟨v', rfl, ho, hg⟩
  exact ⟨v', rfl, h.grow ho hg (by rw [List.length_append, encText_length]; omega)⟩
theorem rqw_plan {W0 w : World} {base bb : Nat} {v0 v : Value} {xs : List UInt8} {q : ReqD} {L : Nat} (p : PlanD) (h : ReqW W0 w base bb v0 v xs q L) (hs : p.name.size ≤ 255) (hL : L ≤ 10000) :
    Calls Try.prog 56 #[v, .agg p.cells] w (ReqWPost W0 base bb v0 (xs ++ encPlan p) q (L + 330)) := by
  have hle := h.le
  refine (ref_wplan base v xs p w h.own (Nat.le_trans h.b0 h.grew.size) (by omega) (by omega)).mono ?_
  rintro e w' ⟨v', rfl, ho, hg⟩
  exact ⟨v', rfl, h.grow ho hg (by rw [List.length_append, encPlan_length]; omega)⟩
/-- What EncodeRequest of the document answers. -/
def RefEncPost (w : World) (q : ReqD) (e : Ending) (w' : World) : Prop := if q.long = true then EncNo w 5 e w' else EncOk w q.bytes e w'
theorem refEnc_long {w : World} {q : ReqD} {e : Ending} {w' : World} (hl : q.long = true) (h : EncNo w 5 e w') : RefEncPost w q e w' := by unfold RefEncPost; rw [if_pos hl]; exact h
theorem refEnc_ok {w : World} {q : ReqD} {e : Ending} {w' : World} (hl : q.long = false) (h : EncOk w q.bytes e w') : RefEncPost w q e w' := by unfold RefEncPost; rw [if_neg (by rw [hl]; decide)]; exact h
theorem any_take_long (ss : List ByteArray) (k : Nat) (s : ByteArray) (h : ss[k]? = some s) (h0 : (ss.take k).any longB = false) : (ss.take (k + 1)).any longB = longB s := by
  obtain ⟨hk, h⟩ := List.getElem?_eq_some_iff.1 h
  rw [List.take_succ_eq_append_getElem hk, h, List.any_append, h0]; simp
theorem any_of_take (ss : List ByteArray) (k : Nat) (h : (ss.take k).any longB = true) : ss.any longB = true := by
  rw [List.any_eq_true] at *
  obtain ⟨x, hx, h⟩ := h
  exact ⟨x, List.mem_of_mem_take hx, h⟩
theorem infoStr : (Try.prog.info? 9).map (fun i => (i.zero, i.size, i.bytes)) = some (some (.string ByteArray.empty), 1, 16) := by kernel_rfl
theorem strs_oneCell (ss : List ByteArray) : ∀ u ∈ ss.map Value.string, u.oneCell' = true := by
  intro u hu
  obtain ⟨_, _, rfl⟩ := List.mem_map.1 hu
  rfl
theorem ref_kind (k : Int) (w : World) :
    Calls Try.prog 53 #[.int .i64 k] w fun e w' => e = .returned (.bool (kindB k)) ∧ w = w' := by
  go_enter Try.func53, Try.ntmps53
  by_cases h1 : 1 ≤ k <;> by_cases h2 : k ≤ 5 <;> by_cases h3 : 16 ≤ k <;> by_cases h4 : k ≤ 20 <;> (try omega)
  all_goals (go_wp2; go_ret; refine ⟨?_, rfl⟩; simp [kindB, *])
set_option maxHeartbeats 400000 in
set_option maxRecDepth 100000 in
theorem ref_enc_bad (q : ReqD) (w : World) (hk : kindB q.kind = false) : Calls Try.prog 28 #[.agg q.cells] w (EncNo w 3) := by
  have k0 : q.cells[0]? = some (.int .i64 q.kind) := rfl
  go_enter Try.func28, Try.ntmps28
  go_wp2_with (go_at_call 53; refine (ref_kind q.kind _).mono ?_; rintro e w' ⟨rfl, rfl⟩)
  go_ret2
  exact ⟨rfl, below_alloc _ _⟩
set_option maxHeartbeats 3200000 in
set_option maxRecDepth 100000 in
theorem ref_enc_1 (q : ReqD) (w : World) (hk : q.kind = 1) : Calls Try.prog 28 #[.agg q.cells] w (RefEncPost w q) := by
  obtain ⟨i0, hi, hz0, hz1, hz2⟩ := info_parts infoStr
  have hkb : kindB 1 = true := by decide
  have HLG : Hid (q.long = ([q.key] : List ByteArray).any longB) := Lib.hid (by unfold ReqD.long ReqD.texts; rw [hk]; rfl)
  have HKC : Hid (q.cells[0]? = some (.int .i64 1)) := Lib.hid (by rw [← hk]; rfl)
  have HBY : Hid (q.bytes = [byteOf 1] ++ encText q.key ++ encInt q.id ++ encInt q.n ++ encInt q.ttl) := Lib.hid (by unfold ReqD.bytes ReqD.nums ReqD.texts ReqD.more; rw [hk]; simp [encInts, encTexts])
  clear hk
  go_enter Try.func28, Try.ntmps28
  go_upto_region 1 with (fail)
  have hB0 := below_alloc w (.cells q.cells 25)
  have hblk := heap_alloc_new w (.cells q.cells 25)
  have hs0 : (w.alloc (.cells q.cells 25)).heap.size = w.heap.size + 1 := by simp
  generalize w.alloc (.cells q.cells 25) = W at *
  have HC : Hid (∀ o u, q.cells[o]? = some u → W.cell? ⟨w.heap.size, o, none⟩ = some u) := Lib.hid (fun o u h => by rw [cell_of_row W _ _ _ _ _ hblk]; exact h)
  have HS0 := Lib.hid hs0
  have HB0 := Lib.hid hB0
  clear hblk hs0 hB0
  generalize hbb : w.heap.size = bb at *
  have HBB := Lib.hid hbb
  clear hbb
  have k0 : W.cell? ⟨bb, 0, none⟩ = some (.int .i64 1) := HC.out 0 _ HKC.out
  have k1 : W.cell? ⟨bb, 1, none⟩ = some (.string q.key) := HC.out 1 _ rfl
  have k2 : W.cell? ⟨bb, 2, none⟩ = some (.int .i64 q.id) := HC.out 2 _ rfl
  have k3 : W.cell? ⟨bb, 3, none⟩ = some (.int .i64 q.n) := HC.out 3 _ rfl
  have k4 : W.cell? ⟨bb, 4, none⟩ = some (.int .i64 q.ttl) := HC.out 4 _ rfl
  have hbl : bb < W.heap.size := by have := HS0.out; omega
  have hown : (W.alloc (.cells #[.string q.key] 9)).ownsRow W.heap.size 9 1 (.slice (some ⟨W.heap.size, 0, none⟩) 1 1) 1 [.string q.key] := World.ownsRow_lit W #[.string q.key] 1 (e := 9) (size := 1) (Nat.le_refl _) (by decide) rfl
  have OW : Hid _ := Lib.hid hown
  clear hown
  go_wp2_with (go_at_call 53; refine (ref_kind 1 _).mono ?_; rintro e w' ⟨rfl, rfl⟩)
  have hBa := below_alloc W (.cells #[.string q.key] 9)
  have hO := OW.out
  clear OW
  generalize W.alloc (.cells #[.string q.key] 9) = w4 at *
  have hg4 : W.heap.size < w4.heap.size := (hO.lt _ rfl).2
  generalize hgg : W.heap.size = gs at *
  obtain ⟨cs, hcs⟩ : ∃ cs, cs = 1 := ⟨1, rfl⟩
  have BW : Hid (Below gs W w4) := Lib.hid hBa
  have CE : Hid (∀ k s, [q.key][k]? = some s → w4.cell? ⟨gs, k, none⟩ = some (.string s)) := Lib.hid (fun k s h => by
    have := hO.cells (g := gs) rfl k (.string s) (by match k, h with | 0, h => (cases h; rfl) | _ + 1, h => simp at h)
    rwa [Addr.add_lit, Nat.zero_add] at this)
  clear hO hcs cs hBa
  have hsz4 : W.heap.size ≤ w4.heap.size := BW.out.size
  clear k0 k1 k2 k3 k4
  have CQ : Hid (∀ o u, q.cells[o]? = some u → w4.cell? ⟨bb, o, none⟩ = some u) := Lib.hid (fun o u h => (BW.out.cell (p := ⟨bb, o, none⟩) (by first | exact hbl | (show bb < _; omega))).trans (HC.out o u h))
  go_loopg [5] 1 (fun g s5 wr => ∃ k : Nat, k + g = 1 ∧ s5 = .int .i64 k ∧ wr = w4 ∧ ([q.key].take k).any longB = false)
  case atStart => exact ⟨0, by omega, rfl, rfl, rfl⟩
  case round =>
    obtain ⟨k, hkg, rfl, rfl, hnl⟩ := hrel
    cases gk with
    | zero =>
      have hk : ¬ ((k : Int) < 1) := by omega
      have HL : Hid ([q.key].any longB = false) := Lib.hid (by rw [List.take_of_length_le (by simp; omega)] at hnl; exact hnl)
      clear hnl
      have k0 : wr.cell? ⟨bb, 0, none⟩ = some (.int .i64 1) := CQ.out 0 _ HKC.out
      have k1 : wr.cell? ⟨bb, 1, none⟩ = some (.string q.key) := CQ.out 1 _ rfl
      have k2 : wr.cell? ⟨bb, 2, none⟩ = some (.int .i64 q.id) := CQ.out 2 _ rfl
      have k3 : wr.cell? ⟨bb, 3, none⟩ = some (.int .i64 q.n) := CQ.out 3 _ rfl
      have k4 : wr.cell? ⟨bb, 4, none⟩ = some (.int .i64 q.ttl) := CQ.out 4 _ rfl
      have HSZ : Hid (∀ s ∈ [q.key], s.size ≤ 255) := Lib.hid (fun s hs => by
        have := HL.out
        rw [List.any_eq_false] at this
        have h2 := this s hs
        simp [longB] at h2
        omega)
      have hown5 : Hid (OwnB (wr.alloc (.cells #[.int .u8 1] 5)) bb (.slice (some ⟨wr.heap.size, 0, none⟩) 1 1) [byteOf 1]) := Lib.hid (own_lit wr bb 1 _ [byteOf 1] rfl rfl (by omega) (by decide))
      have hal := below_alloc wr (.cells #[.int .u8 1] 5)
      have AL := Lib.hid hal
      clear hal
      have X0 : Hid (ReqW (wr.alloc (.cells #[.int .u8 1] 5)) (wr.alloc (.cells #[.int .u8 1] 5)) bb bb (.slice (some ⟨wr.heap.size, 0, none⟩) 1 1) (.slice (some ⟨wr.heap.size, 0, none⟩) 1 1) [byteOf 1] q 1) := Lib.hid
        ⟨hown5.out, Grew.refl _ _, by simp; omega, fun e => absurd (show wr.heap.size = bb by injection e) (by omega), by simp; omega, fun o u h => (AL.out.cell (p := ⟨bb, o, none⟩) (by show bb < _; omega)).trans (CQ.out o u h), by simp⟩
      clear hown5
      have hbw : bb < wr.heap.size := by omega
      have hne : wr.heap.size ≠ bb := by omega
      go_upto_region 20 with (go_at_call 54; refine (rqw_text q.key X0.out (HSZ.out _ (by simp)) (by decide)).mono ?_; rintro e w5 ⟨v5, rfl, X1'⟩; have X1 := Lib.hid X1'; have k0 : w5.cell? ⟨bb, 0, none⟩ = some (.int .i64 1) := X1'.cells 0 _ HKC.out; clear X1')
      have HWW : Hid (Below bb w w5) := Lib.hid (X1.out.grew.below_ge (fun k hk => by cases hk; show bb ≤ wr.heap.size; omega) (((HB0.out : Below bb w W)).trans ((BW.out.mono (by omega)).trans (AL.out.mono (by omega)))) (by simp; omega))
      have k2 : w5.cell? ⟨bb, 2, none⟩ = some (.int .i64 q.id) := X1.out.cells 2 _ rfl
      have k3 : w5.cell? ⟨bb, 3, none⟩ = some (.int .i64 q.n) := X1.out.cells 3 _ rfl
      have k4 : w5.cell? ⟨bb, 4, none⟩ = some (.int .i64 q.ttl) := X1.out.cells 4 _ rfl
      go_upto_region 22 with (fail)
      clear k0
      go_region_held3 (fun w' => w'.cell? ⟨bb, 2, none⟩ = some (.int .i64 q.id) ∧ w'.cell? ⟨bb, 3, none⟩ = some (.int .i64 q.n) ∧ w'.cell? ⟨bb, 4, none⟩ = some (.int .i64 q.ttl)) (first | exact ⟨q2, q3, q4⟩ | exact ⟨k2, k3, k4⟩ | go_keep)
        (first
          | (go_at_call_of 55 (Value.int .i64 q.id)
             refine (rqw_int q.id X1.out.drew (by decide)).mono ?_
             rintro e w6 ⟨v6, rfl, s6⟩
             have X2 := Lib.hid s6
             have q2 : w6.cell? ⟨bb, 2, none⟩ = some (.int .i64 q.id) := s6.cells 2 _ rfl
             have q3 : w6.cell? ⟨bb, 3, none⟩ = some (.int .i64 q.n) := s6.cells 3 _ rfl
             have q4 : w6.cell? ⟨bb, 4, none⟩ = some (.int .i64 q.ttl) := s6.cells 4 _ rfl
             clear s6)
          | (go_at_call_of 55 (Value.int .i64 q.n)
             refine (rqw_int q.n X2.out (by decide)).mono ?_
             rintro e w7 ⟨v7, rfl, s7⟩
             have X3 := Lib.hid s7
             have q2 : w7.cell? ⟨bb, 2, none⟩ = some (.int .i64 q.id) := s7.cells 2 _ rfl
             have q3 : w7.cell? ⟨bb, 3, none⟩ = some (.int .i64 q.n) := s7.cells 3 _ rfl
             have q4 : w7.cell? ⟨bb, 4, none⟩ = some (.int .i64 q.ttl) := s7.cells 4 _ rfl
             clear s7)
          | (go_at_call_of 55 (Value.int .i64 q.ttl)
             refine (rqw_int q.ttl X3.out (by decide)).mono ?_
             rintro e w8 ⟨v8, rfl, s8⟩
             have X4 := Lib.hid s8
             have q2 : w8.cell? ⟨bb, 2, none⟩ = some (.int .i64 q.id) := s8.cells 2 _ rfl
             have q3 : w8.cell? ⟨bb, 3, none⟩ = some (.int .i64 q.n) := s8.cells 3 _ rfl
             have q4 : w8.cell? ⟨bb, 4, none⟩ = some (.int .i64 q.ttl) := s8.cells 4 _ rfl
             clear s8))
      clear q2 k2 q3 k3 q4 k4
      have F : Hid (∀ (v : Value) (w' : World), OwnB w' bb v q.bytes → Grew w5 w' v5 v → RefEncPost w q (.returned (.tuple #[v, .int .i64 0])) w') := Lib.hid (fun v w' ho hg => refEnc_ok (by rw [HLG.out]; exact HL.out) ⟨v, rfl, by rw [HBB.out]; exact ho, by rw [HBB.out]; exact hg.below_ge (fun k hk => (X1.out.own.lt k hk).1) HWW.out (by have := HWW.out.size; have := HS0.out; have := HBB.out; have := X1.out.grew.size; have : wr.heap.size ≤ w5.heap.size := by { have h1 := X1.out.grew.size; have h2 := AL.out.size; omega }; omega)⟩)
      have FF := Lib.hid (refEnc_ok (w := w) (q := q) (e := .returned (.tuple #[v8, .int .i64 0])) (w' := w8) (by rw [HLG.out]; exact HL.out) ⟨v8, rfl, by rw [HBB.out, HBY.out]; exact X4.out.own, by rw [HBB.out]; exact X4.out.grew.below_ge (fun k hk => by cases hk; show bb ≤ wr.heap.size; omega) ((HB0.out : Below bb w W).trans ((BW.out.mono (by omega)).trans (AL.out.mono (by omega)))) (by simp; omega)⟩)
      clear  F HWW
      go_wp2
      go_ret2
      exact FF.out
    | succ g =>
      have hk : (k : Int) < 1 := by omega
      have hk1 : k < 1 := by omega
      obtain ⟨s, hs⟩ : ∃ s : ByteArray, [q.key][k]? = some s := ⟨_, List.getElem?_eq_getElem (by simp; omega)⟩
      have hcs := CE.out k s hs
      have HT := Lib.hid (any_take_long _ k s hs hnl)
      clear hnl hs
      by_cases hl : (255 : Int) < (s.size : Int)
      · have F : Hid (RefEncPost w q (.returned (.tuple #[.slice none 0 0, .int .i64 5])) wr) := Lib.hid (refEnc_long (by
          rw [HLG.out]
          refine any_of_take _ (k + 1) ?_
          rw [HT.out]; simp [longB]; omega) ⟨rfl, by rw [HBB.out]; exact (HB0.out : Below bb w W).trans (BW.out.mono (by omega))⟩)
        go_wp2
        go_ret2
        exact F.out
      · go_wp2
        go_roundg g
        case measure => omega
        case rel => exact ⟨k + 1, by omega, by first | rfl | go_num, rfl, by rw [HT.out]; simp [longB]; omega⟩
set_option maxHeartbeats 3200000 in
set_option maxRecDepth 100000 in
theorem ref_enc_4 (q : ReqD) (w : World) (hk : q.kind = 4) : Calls Try.prog 28 #[.agg q.cells] w (RefEncPost w q) := by
  obtain ⟨i0, hi, hz0, hz1, hz2⟩ := info_parts infoStr
  have hkb : kindB 4 = true := by decide
  have HLG : Hid (q.long = ([q.key] : List ByteArray).any longB) := Lib.hid (by unfold ReqD.long ReqD.texts; rw [hk]; rfl)
  have HKC : Hid (q.cells[0]? = some (.int .i64 4)) := Lib.hid (by rw [← hk]; rfl)
  have HBY : Hid (q.bytes = [byteOf 4] ++ encText q.key ++ encInt q.id ++ encInt q.n ++ encInt q.ttl) := Lib.hid (by unfold ReqD.bytes ReqD.nums ReqD.texts ReqD.more; rw [hk]; simp [encInts, encTexts])
  clear hk
  go_enter Try.func28, Try.ntmps28
  go_upto_region 1 with (fail)
  have hB0 := below_alloc w (.cells q.cells 25)
  have hblk := heap_alloc_new w (.cells q.cells 25)
  have hs0 : (w.alloc (.cells q.cells 25)).heap.size = w.heap.size + 1 := by simp
  generalize w.alloc (.cells q.cells 25) = W at *
  have HC : Hid (∀ o u, q.cells[o]? = some u → W.cell? ⟨w.heap.size, o, none⟩ = some u) := Lib.hid (fun o u h => by rw [cell_of_row W _ _ _ _ _ hblk]; exact h)
  have HS0 := Lib.hid hs0
  have HB0 := Lib.hid hB0
  clear hblk hs0 hB0
  generalize hbb : w.heap.size = bb at *
  have HBB := Lib.hid hbb
  clear hbb
  have k0 : W.cell? ⟨bb, 0, none⟩ = some (.int .i64 4) := HC.out 0 _ HKC.out
  have k1 : W.cell? ⟨bb, 1, none⟩ = some (.string q.key) := HC.out 1 _ rfl
  have k2 : W.cell? ⟨bb, 2, none⟩ = some (.int .i64 q.id) := HC.out 2 _ rfl
  have k3 : W.cell? ⟨bb, 3, none⟩ = some (.int .i64 q.n) := HC.out 3 _ rfl
  have k4 : W.cell? ⟨bb, 4, none⟩ = some (.int .i64 q.ttl) := HC.out 4 _ rfl
  have hbl : bb < W.heap.size := by have := HS0.out; omega
  have hown : (W.alloc (.cells #[.string q.key] 9)).ownsRow W.heap.size 9 1 (.slice (some ⟨W.heap.size, 0, none⟩) 1 1) 1 [.string q.key] := World.ownsRow_lit W #[.string q.key] 1 (e := 9) (size := 1) (Nat.le_refl _) (by decide) rfl
  have OW : Hid _ := Lib.hid hown
  clear hown
  go_wp2_with (go_at_call 53; refine (ref_kind 4 _).mono ?_; rintro e w' ⟨rfl, rfl⟩)
  have hBa := below_alloc W (.cells #[.string q.key] 9)
  have hO := OW.out
  clear OW
  generalize W.alloc (.cells #[.string q.key] 9) = w4 at *
  have hg4 : W.heap.size < w4.heap.size := (hO.lt _ rfl).2
  generalize hgg : W.heap.size = gs at *
  obtain ⟨cs, hcs⟩ : ∃ cs, cs = 1 := ⟨1, rfl⟩
  have BW : Hid (Below gs W w4) := Lib.hid hBa
  have CE : Hid (∀ k s, [q.key][k]? = some s → w4.cell? ⟨gs, k, none⟩ = some (.string s)) := Lib.hid (fun k s h => by
    have := hO.cells (g := gs) rfl k (.string s) (by match k, h with | 0, h => (cases h; rfl) | _ + 1, h => simp at h)
    rwa [Addr.add_lit, Nat.zero_add] at this)
  clear hO hcs cs hBa
  have hsz4 : W.heap.size ≤ w4.heap.size := BW.out.size
  clear k0 k1 k2 k3 k4
  have CQ : Hid (∀ o u, q.cells[o]? = some u → w4.cell? ⟨bb, o, none⟩ = some u) := Lib.hid (fun o u h => (BW.out.cell (p := ⟨bb, o, none⟩) (by first | exact hbl | (show bb < _; omega))).trans (HC.out o u h))
  go_loopg [5] 1 (fun g s5 wr => ∃ k : Nat, k + g = 1 ∧ s5 = .int .i64 k ∧ wr = w4 ∧ ([q.key].take k).any longB = false)
  case atStart => exact ⟨0, by omega, rfl, rfl, rfl⟩
  case round =>
    obtain ⟨k, hkg, rfl, rfl, hnl⟩ := hrel
    cases gk with
    | zero =>
      have hk : ¬ ((k : Int) < 1) := by omega
      have HL : Hid ([q.key].any longB = false) := Lib.hid (by rw [List.take_of_length_le (by simp; omega)] at hnl; exact hnl)
      clear hnl
      have k0 : wr.cell? ⟨bb, 0, none⟩ = some (.int .i64 4) := CQ.out 0 _ HKC.out
      have k1 : wr.cell? ⟨bb, 1, none⟩ = some (.string q.key) := CQ.out 1 _ rfl
      have k2 : wr.cell? ⟨bb, 2, none⟩ = some (.int .i64 q.id) := CQ.out 2 _ rfl
      have k3 : wr.cell? ⟨bb, 3, none⟩ = some (.int .i64 q.n) := CQ.out 3 _ rfl
      have k4 : wr.cell? ⟨bb, 4, none⟩ = some (.int .i64 q.ttl) := CQ.out 4 _ rfl
      have HSZ : Hid (∀ s ∈ [q.key], s.size ≤ 255) := Lib.hid (fun s hs => by
        have := HL.out
        rw [List.any_eq_false] at this
        have h2 := this s hs
        simp [longB] at h2
        omega)
      have hown5 : Hid (OwnB (wr.alloc (.cells #[.int .u8 4] 5)) bb (.slice (some ⟨wr.heap.size, 0, none⟩) 1 1) [byteOf 4]) := Lib.hid (own_lit wr bb 1 _ [byteOf 4] rfl rfl (by omega) (by decide))
      have hal := below_alloc wr (.cells #[.int .u8 4] 5)
      have AL := Lib.hid hal
      clear hal
      have X0 : Hid (ReqW (wr.alloc (.cells #[.int .u8 4] 5)) (wr.alloc (.cells #[.int .u8 4] 5)) bb bb (.slice (some ⟨wr.heap.size, 0, none⟩) 1 1) (.slice (some ⟨wr.heap.size, 0, none⟩) 1 1) [byteOf 4] q 1) := Lib.hid
        ⟨hown5.out, Grew.refl _ _, by simp; omega, fun e => absurd (show wr.heap.size = bb by injection e) (by omega), by simp; omega, fun o u h => (AL.out.cell (p := ⟨bb, o, none⟩) (by show bb < _; omega)).trans (CQ.out o u h), by simp⟩
      clear hown5
      have hbw : bb < wr.heap.size := by omega
      have hne : wr.heap.size ≠ bb := by omega
      go_upto_region 20 with (go_at_call 54; refine (rqw_text q.key X0.out (HSZ.out _ (by simp)) (by decide)).mono ?_; rintro e w5 ⟨v5, rfl, X1'⟩; have X1 := Lib.hid X1'; have k0 : w5.cell? ⟨bb, 0, none⟩ = some (.int .i64 4) := X1'.cells 0 _ HKC.out; clear X1')
      have HWW : Hid (Below bb w w5) := Lib.hid (X1.out.grew.below_ge (fun k hk => by cases hk; show bb ≤ wr.heap.size; omega) (((HB0.out : Below bb w W)).trans ((BW.out.mono (by omega)).trans (AL.out.mono (by omega)))) (by simp; omega))
      have k2 : w5.cell? ⟨bb, 2, none⟩ = some (.int .i64 q.id) := X1.out.cells 2 _ rfl
      have k3 : w5.cell? ⟨bb, 3, none⟩ = some (.int .i64 q.n) := X1.out.cells 3 _ rfl
      have k4 : w5.cell? ⟨bb, 4, none⟩ = some (.int .i64 q.ttl) := X1.out.cells 4 _ rfl
      go_upto_region 22 with (fail)
      clear k0
      go_region_held3 (fun w' => w'.cell? ⟨bb, 2, none⟩ = some (.int .i64 q.id) ∧ w'.cell? ⟨bb, 3, none⟩ = some (.int .i64 q.n) ∧ w'.cell? ⟨bb, 4, none⟩ = some (.int .i64 q.ttl)) (first | exact ⟨q2, q3, q4⟩ | exact ⟨k2, k3, k4⟩ | go_keep)
        (first
          | (go_at_call_of 55 (Value.int .i64 q.id)
             refine (rqw_int q.id X1.out.drew (by decide)).mono ?_
             rintro e w6 ⟨v6, rfl, s6⟩
             have X2 := Lib.hid s6
             have q2 : w6.cell? ⟨bb, 2, none⟩ = some (.int .i64 q.id) := s6.cells 2 _ rfl
             have q3 : w6.cell? ⟨bb, 3, none⟩ = some (.int .i64 q.n) := s6.cells 3 _ rfl
             have q4 : w6.cell? ⟨bb, 4, none⟩ = some (.int .i64 q.ttl) := s6.cells 4 _ rfl
             clear s6)
          | (go_at_call_of 55 (Value.int .i64 q.n)
             refine (rqw_int q.n X2.out (by decide)).mono ?_
             rintro e w7 ⟨v7, rfl, s7⟩
             have X3 := Lib.hid s7
             have q2 : w7.cell? ⟨bb, 2, none⟩ = some (.int .i64 q.id) := s7.cells 2 _ rfl
             have q3 : w7.cell? ⟨bb, 3, none⟩ = some (.int .i64 q.n) := s7.cells 3 _ rfl
             have q4 : w7.cell? ⟨bb, 4, none⟩ = some (.int .i64 q.ttl) := s7.cells 4 _ rfl
             clear s7)
          | (go_at_call_of 55 (Value.int .i64 q.ttl)
             refine (rqw_int q.ttl X3.out (by decide)).mono ?_
             rintro e w8 ⟨v8, rfl, s8⟩
             have X4 := Lib.hid s8
             have q2 : w8.cell? ⟨bb, 2, none⟩ = some (.int .i64 q.id) := s8.cells 2 _ rfl
             have q3 : w8.cell? ⟨bb, 3, none⟩ = some (.int .i64 q.n) := s8.cells 3 _ rfl
             have q4 : w8.cell? ⟨bb, 4, none⟩ = some (.int .i64 q.ttl) := s8.cells 4 _ rfl
             clear s8))
      clear q2 k2 q3 k3 q4 k4
      have F : Hid (∀ (v : Value) (w' : World), OwnB w' bb v q.bytes → Grew w5 w' v5 v → RefEncPost w q (.returned (.tuple #[v, .int .i64 0])) w') := Lib.hid (fun v w' ho hg => refEnc_ok (by rw [HLG.out]; exact HL.out) ⟨v, rfl, by rw [HBB.out]; exact ho, by rw [HBB.out]; exact hg.below_ge (fun k hk => (X1.out.own.lt k hk).1) HWW.out (by have := HWW.out.size; have := HS0.out; have := HBB.out; have := X1.out.grew.size; have : wr.heap.size ≤ w5.heap.size := by { have h1 := X1.out.grew.size; have h2 := AL.out.size; omega }; omega)⟩)
      have FF := Lib.hid (refEnc_ok (w := w) (q := q) (e := .returned (.tuple #[v8, .int .i64 0])) (w' := w8) (by rw [HLG.out]; exact HL.out) ⟨v8, rfl, by rw [HBB.out, HBY.out]; exact X4.out.own, by rw [HBB.out]; exact X4.out.grew.below_ge (fun k hk => by cases hk; show bb ≤ wr.heap.size; omega) ((HB0.out : Below bb w W).trans ((BW.out.mono (by omega)).trans (AL.out.mono (by omega)))) (by simp; omega)⟩)
      clear  F HWW
      go_wp2
      go_ret2
      exact FF.out
    | succ g =>
      have hk : (k : Int) < 1 := by omega
      have hk1 : k < 1 := by omega
      obtain ⟨s, hs⟩ : ∃ s : ByteArray, [q.key][k]? = some s := ⟨_, List.getElem?_eq_getElem (by simp; omega)⟩
      have hcs := CE.out k s hs
      have HT := Lib.hid (any_take_long _ k s hs hnl)
      clear hnl hs
      by_cases hl : (255 : Int) < (s.size : Int)
      · have F : Hid (RefEncPost w q (.returned (.tuple #[.slice none 0 0, .int .i64 5])) wr) := Lib.hid (refEnc_long (by
          rw [HLG.out]
          refine any_of_take _ (k + 1) ?_
          rw [HT.out]; simp [longB]; omega) ⟨rfl, by rw [HBB.out]; exact (HB0.out : Below bb w W).trans (BW.out.mono (by omega))⟩)
        go_wp2
        go_ret2
        exact F.out
      · go_wp2
        go_roundg g
        case measure => omega
        case rel => exact ⟨k + 1, by omega, by first | rfl | go_num, rfl, by rw [HT.out]; simp [longB]; omega⟩
set_option maxHeartbeats 3200000 in
set_option maxRecDepth 100000 in
theorem ref_enc_2 (q : ReqD) (w : World) (hk : q.kind = 2) : Calls Try.prog 28 #[.agg q.cells] w (RefEncPost w q) := by
  obtain ⟨i0, hi, hz0, hz1, hz2⟩ := info_parts infoStr
  have hkb : kindB 2 = true := by decide
  have HLG : Hid (q.long = ([q.key] : List ByteArray).any longB) := Lib.hid (by unfold ReqD.long ReqD.texts; rw [hk]; rfl)
  have HKC : Hid (q.cells[0]? = some (.int .i64 2)) := Lib.hid (by rw [← hk]; rfl)
  have HBY : Hid (q.bytes = [byteOf 2] ++ encText q.key ++ encInt q.id ++ encInt q.of ++ encInt q.n) := Lib.hid (by unfold ReqD.bytes ReqD.nums ReqD.texts ReqD.more; rw [hk]; simp [encInts, encTexts])
  clear hk
  go_enter Try.func28, Try.ntmps28
  go_upto_region 1 with (fail)
  have hB0 := below_alloc w (.cells q.cells 25)
  have hblk := heap_alloc_new w (.cells q.cells 25)
  have hs0 : (w.alloc (.cells q.cells 25)).heap.size = w.heap.size + 1 := by simp
  generalize w.alloc (.cells q.cells 25) = W at *
  have HC : Hid (∀ o u, q.cells[o]? = some u → W.cell? ⟨w.heap.size, o, none⟩ = some u) := Lib.hid (fun o u h => by rw [cell_of_row W _ _ _ _ _ hblk]; exact h)
  have HS0 := Lib.hid hs0
  have HB0 := Lib.hid hB0
  clear hblk hs0 hB0
  generalize hbb : w.heap.size = bb at *
  have HBB := Lib.hid hbb
  clear hbb
  have k0 : W.cell? ⟨bb, 0, none⟩ = some (.int .i64 2) := HC.out 0 _ HKC.out
  have k1 : W.cell? ⟨bb, 1, none⟩ = some (.string q.key) := HC.out 1 _ rfl
  have k2 : W.cell? ⟨bb, 2, none⟩ = some (.int .i64 q.id) := HC.out 2 _ rfl
  have k3 : W.cell? ⟨bb, 3, none⟩ = some (.int .i64 q.n) := HC.out 3 _ rfl
  have k5 : W.cell? ⟨bb, 5, none⟩ = some (.int .i64 q.of) := HC.out 5 _ rfl
  have hbl : bb < W.heap.size := by have := HS0.out; omega
  have hown : (W.alloc (.cells #[.string q.key] 9)).ownsRow W.heap.size 9 1 (.slice (some ⟨W.heap.size, 0, none⟩) 1 1) 1 [.string q.key] := World.ownsRow_lit W #[.string q.key] 1 (e := 9) (size := 1) (Nat.le_refl _) (by decide) rfl
  have OW : Hid _ := Lib.hid hown
  clear hown
  go_wp2_with (go_at_call 53; refine (ref_kind 2 _).mono ?_; rintro e w' ⟨rfl, rfl⟩)
  have hBa := below_alloc W (.cells #[.string q.key] 9)
  have hO := OW.out
  clear OW
  generalize W.alloc (.cells #[.string q.key] 9) = w4 at *
  have hg4 : W.heap.size < w4.heap.size := (hO.lt _ rfl).2
  generalize hgg : W.heap.size = gs at *
  obtain ⟨cs, hcs⟩ : ∃ cs, cs = 1 := ⟨1, rfl⟩
  have BW : Hid (Below gs W w4) := Lib.hid hBa
  have CE : Hid (∀ k s, [q.key][k]? = some s → w4.cell? ⟨gs, k, none⟩ = some (.string s)) := Lib.hid (fun k s h => by
    have := hO.cells (g := gs) rfl k (.string s) (by match k, h with | 0, h => (cases h; rfl) | _ + 1, h => simp at h)
    rwa [Addr.add_lit, Nat.zero_add] at this)
  clear hO hcs cs hBa
  have hsz4 : W.heap.size ≤ w4.heap.size := BW.out.size
  clear k0 k1 k2 k3 k5
  have CQ : Hid (∀ o u, q.cells[o]? = some u → w4.cell? ⟨bb, o, none⟩ = some u) := Lib.hid (fun o u h => (BW.out.cell (p := ⟨bb, o, none⟩) (by first | exact hbl | (show bb < _; omega))).trans (HC.out o u h))
  go_loopg [5] 1 (fun g s5 wr => ∃ k : Nat, k + g = 1 ∧ s5 = .int .i64 k ∧ wr = w4 ∧ ([q.key].take k).any longB = false)
  case atStart => exact ⟨0, by omega, rfl, rfl, rfl⟩
  case round =>
    obtain ⟨k, hkg, rfl, rfl, hnl⟩ := hrel
    cases gk with
    | zero =>
      have hk : ¬ ((k : Int) < 1) := by omega
      have HL : Hid ([q.key].any longB = false) := Lib.hid (by rw [List.take_of_length_le (by simp; omega)] at hnl; exact hnl)
      clear hnl
      have k0 : wr.cell? ⟨bb, 0, none⟩ = some (.int .i64 2) := CQ.out 0 _ HKC.out
      have k1 : wr.cell? ⟨bb, 1, none⟩ = some (.string q.key) := CQ.out 1 _ rfl
      have k2 : wr.cell? ⟨bb, 2, none⟩ = some (.int .i64 q.id) := CQ.out 2 _ rfl
      have k3 : wr.cell? ⟨bb, 3, none⟩ = some (.int .i64 q.n) := CQ.out 3 _ rfl
      have k5 : wr.cell? ⟨bb, 5, none⟩ = some (.int .i64 q.of) := CQ.out 5 _ rfl
      have HSZ : Hid (∀ s ∈ [q.key], s.size ≤ 255) := Lib.hid (fun s hs => by
        have := HL.out
        rw [List.any_eq_false] at this
        have h2 := this s hs
        simp [longB] at h2
        omega)
      have hown5 : Hid (OwnB (wr.alloc (.cells #[.int .u8 2] 5)) bb (.slice (some ⟨wr.heap.size, 0, none⟩) 1 1) [byteOf 2]) := Lib.hid (own_lit wr bb 1 _ [byteOf 2] rfl rfl (by omega) (by decide))
      have hal := below_alloc wr (.cells #[.int .u8 2] 5)
      have AL := Lib.hid hal
      clear hal
      have X0 : Hid (ReqW (wr.alloc (.cells #[.int .u8 2] 5)) (wr.alloc (.cells #[.int .u8 2] 5)) bb bb (.slice (some ⟨wr.heap.size, 0, none⟩) 1 1) (.slice (some ⟨wr.heap.size, 0, none⟩) 1 1) [byteOf 2] q 1) := Lib.hid
        ⟨hown5.out, Grew.refl _ _, by simp; omega, fun e => absurd (show wr.heap.size = bb by injection e) (by omega), by simp; omega, fun o u h => (AL.out.cell (p := ⟨bb, o, none⟩) (by show bb < _; omega)).trans (CQ.out o u h), by simp⟩
      clear hown5
      have hbw : bb < wr.heap.size := by omega
      have hne : wr.heap.size ≠ bb := by omega
      go_upto_region 20 with (go_at_call 54; refine (rqw_text q.key X0.out (HSZ.out _ (by simp)) (by decide)).mono ?_; rintro e w5 ⟨v5, rfl, X1'⟩; have X1 := Lib.hid X1'; have k0 : w5.cell? ⟨bb, 0, none⟩ = some (.int .i64 2) := X1'.cells 0 _ HKC.out; clear X1')
      have HWW : Hid (Below bb w w5) := Lib.hid (X1.out.grew.below_ge (fun k hk => by cases hk; show bb ≤ wr.heap.size; omega) (((HB0.out : Below bb w W)).trans ((BW.out.mono (by omega)).trans (AL.out.mono (by omega)))) (by simp; omega))
      have k2 : w5.cell? ⟨bb, 2, none⟩ = some (.int .i64 q.id) := X1.out.cells 2 _ rfl
      have k3 : w5.cell? ⟨bb, 3, none⟩ = some (.int .i64 q.n) := X1.out.cells 3 _ rfl
      have k5 : w5.cell? ⟨bb, 5, none⟩ = some (.int .i64 q.of) := X1.out.cells 5 _ rfl
      go_upto_region 24 with (fail)
      clear k0
      go_region_held3 (fun w' => w'.cell? ⟨bb, 2, none⟩ = some (.int .i64 q.id) ∧ w'.cell? ⟨bb, 3, none⟩ = some (.int .i64 q.n) ∧ w'.cell? ⟨bb, 5, none⟩ = some (.int .i64 q.of)) (first | exact ⟨q2, q3, q5⟩ | exact ⟨k2, k3, k5⟩ | go_keep)
        (first
          | (go_at_call_of 55 (Value.int .i64 q.id)
             refine (rqw_int q.id X1.out.drew (by decide)).mono ?_
             rintro e w6 ⟨v6, rfl, s6⟩
             have X2 := Lib.hid s6
             have q2 : w6.cell? ⟨bb, 2, none⟩ = some (.int .i64 q.id) := s6.cells 2 _ rfl
             have q3 : w6.cell? ⟨bb, 3, none⟩ = some (.int .i64 q.n) := s6.cells 3 _ rfl
             have q5 : w6.cell? ⟨bb, 5, none⟩ = some (.int .i64 q.of) := s6.cells 5 _ rfl
             clear s6)
          | (go_at_call_of 55 (Value.int .i64 q.of)
             refine (rqw_int q.of X2.out (by decide)).mono ?_
             rintro e w7 ⟨v7, rfl, s7⟩
             have X3 := Lib.hid s7
             have q2 : w7.cell? ⟨bb, 2, none⟩ = some (.int .i64 q.id) := s7.cells 2 _ rfl
             have q3 : w7.cell? ⟨bb, 3, none⟩ = some (.int .i64 q.n) := s7.cells 3 _ rfl
             have q5 : w7.cell? ⟨bb, 5, none⟩ = some (.int .i64 q.of) := s7.cells 5 _ rfl
             clear s7)
          | (go_at_call_of 55 (Value.int .i64 q.n)
             refine (rqw_int q.n X3.out (by decide)).mono ?_
             rintro e w8 ⟨v8, rfl, s8⟩
             have X4 := Lib.hid s8
             have q2 : w8.cell? ⟨bb, 2, none⟩ = some (.int .i64 q.id) := s8.cells 2 _ rfl
             have q3 : w8.cell? ⟨bb, 3, none⟩ = some (.int .i64 q.n) := s8.cells 3 _ rfl
             have q5 : w8.cell? ⟨bb, 5, none⟩ = some (.int .i64 q.of) := s8.cells 5 _ rfl
             clear s8))
      clear q2 k2 q3 k3 q5 k5
      have F : Hid (∀ (v : Value) (w' : World), OwnB w' bb v q.bytes → Grew w5 w' v5 v → RefEncPost w q (.returned (.tuple #[v, .int .i64 0])) w') := Lib.hid (fun v w' ho hg => refEnc_ok (by rw [HLG.out]; exact HL.out) ⟨v, rfl, by rw [HBB.out]; exact ho, by rw [HBB.out]; exact hg.below_ge (fun k hk => (X1.out.own.lt k hk).1) HWW.out (by have := HWW.out.size; have := HS0.out; have := HBB.out; have := X1.out.grew.size; have : wr.heap.size ≤ w5.heap.size := by { have h1 := X1.out.grew.size; have h2 := AL.out.size; omega }; omega)⟩)
      have FF := Lib.hid (refEnc_ok (w := w) (q := q) (e := .returned (.tuple #[v8, .int .i64 0])) (w' := w8) (by rw [HLG.out]; exact HL.out) ⟨v8, rfl, by rw [HBB.out, HBY.out]; exact X4.out.own, by rw [HBB.out]; exact X4.out.grew.below_ge (fun k hk => by cases hk; show bb ≤ wr.heap.size; omega) ((HB0.out : Below bb w W).trans ((BW.out.mono (by omega)).trans (AL.out.mono (by omega)))) (by simp; omega)⟩)
      clear  F HWW
      go_wp2
      go_ret2
      exact FF.out
    | succ g =>
      have hk : (k : Int) < 1 := by omega
      have hk1 : k < 1 := by omega
      obtain ⟨s, hs⟩ : ∃ s : ByteArray, [q.key][k]? = some s := ⟨_, List.getElem?_eq_getElem (by simp; omega)⟩
      have hcs := CE.out k s hs
      have HT := Lib.hid (any_take_long _ k s hs hnl)
      clear hnl hs
      by_cases hl : (255 : Int) < (s.size : Int)
      · have F : Hid (RefEncPost w q (.returned (.tuple #[.slice none 0 0, .int .i64 5])) wr) := Lib.hid (refEnc_long (by
          rw [HLG.out]
          refine any_of_take _ (k + 1) ?_
          rw [HT.out]; simp [longB]; omega) ⟨rfl, by rw [HBB.out]; exact (HB0.out : Below bb w W).trans (BW.out.mono (by omega))⟩)
        go_wp2
        go_ret2
        exact F.out
      · go_wp2
        go_roundg g
        case measure => omega
        case rel => exact ⟨k + 1, by omega, by first | rfl | go_num, rfl, by rw [HT.out]; simp [longB]; omega⟩
set_option maxHeartbeats 3200000 in
set_option maxRecDepth 100000 in
theorem ref_enc_3 (q : ReqD) (w : World) (hk : q.kind = 3) : Calls Try.prog 28 #[.agg q.cells] w (RefEncPost w q) := by
  obtain ⟨i0, hi, hz0, hz1, hz2⟩ := info_parts infoStr
  have hkb : kindB 3 = true := by decide
  have HLG : Hid (q.long = ([q.key] : List ByteArray).any longB) := Lib.hid (by unfold ReqD.long ReqD.texts; rw [hk]; rfl)
  have HKC : Hid (q.cells[0]? = some (.int .i64 3)) := Lib.hid (by rw [← hk]; rfl)
  have HBY : Hid (q.bytes = [byteOf 3] ++ encText q.key ++ encInt q.id ++ encInt q.of) := Lib.hid (by unfold ReqD.bytes ReqD.nums ReqD.texts ReqD.more; rw [hk]; simp [encInts, encTexts])
  clear hk
  go_enter Try.func28, Try.ntmps28
  go_upto_region 1 with (fail)
  have hB0 := below_alloc w (.cells q.cells 25)
  have hblk := heap_alloc_new w (.cells q.cells 25)
  have hs0 : (w.alloc (.cells q.cells 25)).heap.size = w.heap.size + 1 := by simp
  generalize w.alloc (.cells q.cells 25) = W at *
  have HC : Hid (∀ o u, q.cells[o]? = some u → W.cell? ⟨w.heap.size, o, none⟩ = some u) := Lib.hid (fun o u h => by rw [cell_of_row W _ _ _ _ _ hblk]; exact h)
  have HS0 := Lib.hid hs0
  have HB0 := Lib.hid hB0
  clear hblk hs0 hB0
  generalize hbb : w.heap.size = bb at *
  have HBB := Lib.hid hbb
  clear hbb
  have k0 : W.cell? ⟨bb, 0, none⟩ = some (.int .i64 3) := HC.out 0 _ HKC.out
  have k1 : W.cell? ⟨bb, 1, none⟩ = some (.string q.key) := HC.out 1 _ rfl
  have k2 : W.cell? ⟨bb, 2, none⟩ = some (.int .i64 q.id) := HC.out 2 _ rfl
  have k5 : W.cell? ⟨bb, 5, none⟩ = some (.int .i64 q.of) := HC.out 5 _ rfl
  have hbl : bb < W.heap.size := by have := HS0.out; omega
  have hown : (W.alloc (.cells #[.string q.key] 9)).ownsRow W.heap.size 9 1 (.slice (some ⟨W.heap.size, 0, none⟩) 1 1) 1 [.string q.key] := World.ownsRow_lit W #[.string q.key] 1 (e := 9) (size := 1) (Nat.le_refl _) (by decide) rfl
  have OW : Hid _ := Lib.hid hown
  clear hown
  go_wp2_with (go_at_call 53; refine (ref_kind 3 _).mono ?_; rintro e w' ⟨rfl, rfl⟩)
  have hBa := below_alloc W (.cells #[.string q.key] 9)
  have hO := OW.out
  clear OW
  generalize W.alloc (.cells #[.string q.key] 9) = w4 at *
  have hg4 : W.heap.size < w4.heap.size := (hO.lt _ rfl).2
  generalize hgg : W.heap.size = gs at *
  obtain ⟨cs, hcs⟩ : ∃ cs, cs = 1 := ⟨1, rfl⟩
  have BW : Hid (Below gs W w4) := Lib.hid hBa
  have CE : Hid (∀ k s, [q.key][k]? = some s → w4.cell? ⟨gs, k, none⟩ = some (.string s)) := Lib.hid (fun k s h => by
    have := hO.cells (g := gs) rfl k (.string s) (by match k, h with | 0, h => (cases h; rfl) | _ + 1, h => simp at h)
    rwa [Addr.add_lit, Nat.zero_add] at this)
  clear hO hcs cs hBa
  have hsz4 : W.heap.size ≤ w4.heap.size := BW.out.size
  clear k0 k1 k2 k5
  have CQ : Hid (∀ o u, q.cells[o]? = some u → w4.cell? ⟨bb, o, none⟩ = some u) := Lib.hid (fun o u h => (BW.out.cell (p := ⟨bb, o, none⟩) (by first | exact hbl | (show bb < _; omega))).trans (HC.out o u h))
  go_loopg [5] 1 (fun g s5 wr => ∃ k : Nat, k + g = 1 ∧ s5 = .int .i64 k ∧ wr = w4 ∧ ([q.key].take k).any longB = false)
  case atStart => exact ⟨0, by omega, rfl, rfl, rfl⟩
  case round =>
    obtain ⟨k, hkg, rfl, rfl, hnl⟩ := hrel
    cases gk with
    | zero =>
      have hk : ¬ ((k : Int) < 1) := by omega
      have HL : Hid ([q.key].any longB = false) := Lib.hid (by rw [List.take_of_length_le (by simp; omega)] at hnl; exact hnl)
      clear hnl
      have k0 : wr.cell? ⟨bb, 0, none⟩ = some (.int .i64 3) := CQ.out 0 _ HKC.out
      have k1 : wr.cell? ⟨bb, 1, none⟩ = some (.string q.key) := CQ.out 1 _ rfl
      have k2 : wr.cell? ⟨bb, 2, none⟩ = some (.int .i64 q.id) := CQ.out 2 _ rfl
      have k5 : wr.cell? ⟨bb, 5, none⟩ = some (.int .i64 q.of) := CQ.out 5 _ rfl
      have HSZ : Hid (∀ s ∈ [q.key], s.size ≤ 255) := Lib.hid (fun s hs => by
        have := HL.out
        rw [List.any_eq_false] at this
        have h2 := this s hs
        simp [longB] at h2
        omega)
      have hown5 : Hid (OwnB (wr.alloc (.cells #[.int .u8 3] 5)) bb (.slice (some ⟨wr.heap.size, 0, none⟩) 1 1) [byteOf 3]) := Lib.hid (own_lit wr bb 1 _ [byteOf 3] rfl rfl (by omega) (by decide))
      have hal := below_alloc wr (.cells #[.int .u8 3] 5)
      have AL := Lib.hid hal
      clear hal
      have X0 : Hid (ReqW (wr.alloc (.cells #[.int .u8 3] 5)) (wr.alloc (.cells #[.int .u8 3] 5)) bb bb (.slice (some ⟨wr.heap.size, 0, none⟩) 1 1) (.slice (some ⟨wr.heap.size, 0, none⟩) 1 1) [byteOf 3] q 1) := Lib.hid
        ⟨hown5.out, Grew.refl _ _, by simp; omega, fun e => absurd (show wr.heap.size = bb by injection e) (by omega), by simp; omega, fun o u h => (AL.out.cell (p := ⟨bb, o, none⟩) (by show bb < _; omega)).trans (CQ.out o u h), by simp⟩
      clear hown5
      have hbw : bb < wr.heap.size := by omega
      have hne : wr.heap.size ≠ bb := by omega
      go_upto_region 20 with (go_at_call 54; refine (rqw_text q.key X0.out (HSZ.out _ (by simp)) (by decide)).mono ?_; rintro e w5 ⟨v5, rfl, X1'⟩; have X1 := Lib.hid X1'; have k0 : w5.cell? ⟨bb, 0, none⟩ = some (.int .i64 3) := X1'.cells 0 _ HKC.out; clear X1')
      have HWW : Hid (Below bb w w5) := Lib.hid (X1.out.grew.below_ge (fun k hk => by cases hk; show bb ≤ wr.heap.size; omega) (((HB0.out : Below bb w W)).trans ((BW.out.mono (by omega)).trans (AL.out.mono (by omega)))) (by simp; omega))
      have k2 : w5.cell? ⟨bb, 2, none⟩ = some (.int .i64 q.id) := X1.out.cells 2 _ rfl
      have k5 : w5.cell? ⟨bb, 5, none⟩ = some (.int .i64 q.of) := X1.out.cells 5 _ rfl
      go_upto_region 26 with (fail)
      clear k0
      go_region_held3 (fun w' => w'.cell? ⟨bb, 2, none⟩ = some (.int .i64 q.id) ∧ w'.cell? ⟨bb, 5, none⟩ = some (.int .i64 q.of)) (first | exact ⟨q2, q5⟩ | exact ⟨k2, k5⟩ | go_keep)
        (first
          | (go_at_call_of 55 (Value.int .i64 q.id)
             refine (rqw_int q.id X1.out.drew (by decide)).mono ?_
             rintro e w6 ⟨v6, rfl, s6⟩
             have X2 := Lib.hid s6
             have q2 : w6.cell? ⟨bb, 2, none⟩ = some (.int .i64 q.id) := s6.cells 2 _ rfl
             have q5 : w6.cell? ⟨bb, 5, none⟩ = some (.int .i64 q.of) := s6.cells 5 _ rfl
             clear s6)
          | (go_at_call_of 55 (Value.int .i64 q.of)
             refine (rqw_int q.of X2.out (by decide)).mono ?_
             rintro e w7 ⟨v7, rfl, s7⟩
             have X3 := Lib.hid s7
             have q2 : w7.cell? ⟨bb, 2, none⟩ = some (.int .i64 q.id) := s7.cells 2 _ rfl
             have q5 : w7.cell? ⟨bb, 5, none⟩ = some (.int .i64 q.of) := s7.cells 5 _ rfl
             clear s7))
      clear q2 k2 q5 k5
      have F : Hid (∀ (v : Value) (w' : World), OwnB w' bb v q.bytes → Grew w5 w' v5 v → RefEncPost w q (.returned (.tuple #[v, .int .i64 0])) w') := Lib.hid (fun v w' ho hg => refEnc_ok (by rw [HLG.out]; exact HL.out) ⟨v, rfl, by rw [HBB.out]; exact ho, by rw [HBB.out]; exact hg.below_ge (fun k hk => (X1.out.own.lt k hk).1) HWW.out (by have := HWW.out.size; have := HS0.out; have := HBB.out; have := X1.out.grew.size; have : wr.heap.size ≤ w5.heap.size := by { have h1 := X1.out.grew.size; have h2 := AL.out.size; omega }; omega)⟩)
      have FF := Lib.hid (refEnc_ok (w := w) (q := q) (e := .returned (.tuple #[v7, .int .i64 0])) (w' := w7) (by rw [HLG.out]; exact HL.out) ⟨v7, rfl, by rw [HBB.out, HBY.out]; exact X3.out.own, by rw [HBB.out]; exact X3.out.grew.below_ge (fun k hk => by cases hk; show bb ≤ wr.heap.size; omega) ((HB0.out : Below bb w W).trans ((BW.out.mono (by omega)).trans (AL.out.mono (by omega)))) (by simp; omega)⟩)
      clear  F HWW
      go_wp2
      go_ret2
      exact FF.out
    | succ g =>
      have hk : (k : Int) < 1 := by omega
      have hk1 : k < 1 := by omega
      obtain ⟨s, hs⟩ : ∃ s : ByteArray, [q.key][k]? = some s := ⟨_, List.getElem?_eq_getElem (by simp; omega)⟩
      have hcs := CE.out k s hs
      have HT := Lib.hid (any_take_long _ k s hs hnl)
      clear hnl hs
      by_cases hl : (255 : Int) < (s.size : Int)
      · have F : Hid (RefEncPost w q (.returned (.tuple #[.slice none 0 0, .int .i64 5])) wr) := Lib.hid (refEnc_long (by
          rw [HLG.out]
          refine any_of_take _ (k + 1) ?_
          rw [HT.out]; simp [longB]; omega) ⟨rfl, by rw [HBB.out]; exact (HB0.out : Below bb w W).trans (BW.out.mono (by omega))⟩)
        go_wp2
        go_ret2
        exact F.out
      · go_wp2
        go_roundg g
        case measure => omega
        case rel => exact ⟨k + 1, by omega, by first | rfl | go_num, rfl, by rw [HT.out]; simp [longB]; omega⟩
set_option maxHeartbeats 3200000 in
set_option maxRecDepth 100000 in
theorem ref_enc_5 (q : ReqD) (w : World) (hk : q.kind = 5) : Calls Try.prog 28 #[.agg q.cells] w (RefEncPost w q) := by
  obtain ⟨i0, hi, hz0, hz1, hz2⟩ := info_parts infoStr
  have hkb : kindB 5 = true := by decide
  have HLG : Hid (q.long = ([q.key] : List ByteArray).any longB) := Lib.hid (by unfold ReqD.long ReqD.texts; rw [hk]; rfl)
  have HKC : Hid (q.cells[0]? = some (.int .i64 5)) := Lib.hid (by rw [← hk]; rfl)
  have HBY : Hid (q.bytes = [byteOf 5] ++ encText q.key) := Lib.hid (by unfold ReqD.bytes ReqD.nums ReqD.texts ReqD.more; rw [hk]; simp [encInts, encTexts])
  clear hk
  go_enter Try.func28, Try.ntmps28
  go_upto_region 1 with (fail)
  have hB0 := below_alloc w (.cells q.cells 25)
  have hblk := heap_alloc_new w (.cells q.cells 25)
  have hs0 : (w.alloc (.cells q.cells 25)).heap.size = w.heap.size + 1 := by simp
  generalize w.alloc (.cells q.cells 25) = W at *
  have HC : Hid (∀ o u, q.cells[o]? = some u → W.cell? ⟨w.heap.size, o, none⟩ = some u) := Lib.hid (fun o u h => by rw [cell_of_row W _ _ _ _ _ hblk]; exact h)
  have HS0 := Lib.hid hs0
  have HB0 := Lib.hid hB0
  clear hblk hs0 hB0
  generalize hbb : w.heap.size = bb at *
  have HBB := Lib.hid hbb
  clear hbb
  have k0 : W.cell? ⟨bb, 0, none⟩ = some (.int .i64 5) := HC.out 0 _ HKC.out
  have k1 : W.cell? ⟨bb, 1, none⟩ = some (.string q.key) := HC.out 1 _ rfl
  have hbl : bb < W.heap.size := by have := HS0.out; omega
  have hown : (W.alloc (.cells #[.string q.key] 9)).ownsRow W.heap.size 9 1 (.slice (some ⟨W.heap.size, 0, none⟩) 1 1) 1 [.string q.key] := World.ownsRow_lit W #[.string q.key] 1 (e := 9) (size := 1) (Nat.le_refl _) (by decide) rfl
  have OW : Hid _ := Lib.hid hown
  clear hown
  go_wp2_with (go_at_call 53; refine (ref_kind 5 _).mono ?_; rintro e w' ⟨rfl, rfl⟩)
  have hBa := below_alloc W (.cells #[.string q.key] 9)
  have hO := OW.out
  clear OW
  generalize W.alloc (.cells #[.string q.key] 9) = w4 at *
  have hg4 : W.heap.size < w4.heap.size := (hO.lt _ rfl).2
  generalize hgg : W.heap.size = gs at *
  obtain ⟨cs, hcs⟩ : ∃ cs, cs = 1 := ⟨1, rfl⟩
  have BW : Hid (Below gs W w4) := Lib.hid hBa
  have CE : Hid (∀ k s, [q.key][k]? = some s → w4.cell? ⟨gs, k, none⟩ = some (.string s)) := Lib.hid (fun k s h => by
    have := hO.cells (g := gs) rfl k (.string s) (by match k, h with | 0, h => (cases h; rfl) | _ + 1, h => simp at h)
    rwa [Addr.add_lit, Nat.zero_add] at this)
  clear hO hcs cs hBa
  have hsz4 : W.heap.size ≤ w4.heap.size := BW.out.size
  clear k0 k1
  have CQ : Hid (∀ o u, q.cells[o]? = some u → w4.cell? ⟨bb, o, none⟩ = some u) := Lib.hid (fun o u h => (BW.out.cell (p := ⟨bb, o, none⟩) (by first | exact hbl | (show bb < _; omega))).trans (HC.out o u h))
  go_loopg [5] 1 (fun g s5 wr => ∃ k : Nat, k + g = 1 ∧ s5 = .int .i64 k ∧ wr = w4 ∧ ([q.key].take k).any longB = false)
  case atStart => exact ⟨0, by omega, rfl, rfl, rfl⟩
  case round =>
    obtain ⟨k, hkg, rfl, rfl, hnl⟩ := hrel
    cases gk with
    | zero =>
      have hk : ¬ ((k : Int) < 1) := by omega
      have HL : Hid ([q.key].any longB = false) := Lib.hid (by rw [List.take_of_length_le (by simp; omega)] at hnl; exact hnl)
      clear hnl
      have k0 : wr.cell? ⟨bb, 0, none⟩ = some (.int .i64 5) := CQ.out 0 _ HKC.out
      have k1 : wr.cell? ⟨bb, 1, none⟩ = some (.string q.key) := CQ.out 1 _ rfl
      have HSZ : Hid (∀ s ∈ [q.key], s.size ≤ 255) := Lib.hid (fun s hs => by
        have := HL.out
        rw [List.any_eq_false] at this
        have h2 := this s hs
        simp [longB] at h2
        omega)
      have hown5 : Hid (OwnB (wr.alloc (.cells #[.int .u8 5] 5)) bb (.slice (some ⟨wr.heap.size, 0, none⟩) 1 1) [byteOf 5]) := Lib.hid (own_lit wr bb 1 _ [byteOf 5] rfl rfl (by omega) (by decide))
      have hal := below_alloc wr (.cells #[.int .u8 5] 5)
      have AL := Lib.hid hal
      clear hal
      have X0 : Hid (ReqW (wr.alloc (.cells #[.int .u8 5] 5)) (wr.alloc (.cells #[.int .u8 5] 5)) bb bb (.slice (some ⟨wr.heap.size, 0, none⟩) 1 1) (.slice (some ⟨wr.heap.size, 0, none⟩) 1 1) [byteOf 5] q 1) := Lib.hid
        ⟨hown5.out, Grew.refl _ _, by simp; omega, fun e => absurd (show wr.heap.size = bb by injection e) (by omega), by simp; omega, fun o u h => (AL.out.cell (p := ⟨bb, o, none⟩) (by show bb < _; omega)).trans (CQ.out o u h), by simp⟩
      clear hown5
      have hbw : bb < wr.heap.size := by omega
      have hne : wr.heap.size ≠ bb := by omega
      go_upto_region 20 with (go_at_call 54; refine (rqw_text q.key X0.out (HSZ.out _ (by simp)) (by decide)).mono ?_; rintro e w5 ⟨v5, rfl, X1'⟩; have X1 := Lib.hid X1'; have k0 : w5.cell? ⟨bb, 0, none⟩ = some (.int .i64 5) := X1'.cells 0 _ HKC.out; clear X1')
      have HWW : Hid (Below bb w w5) := Lib.hid (X1.out.grew.below_ge (fun k hk => by cases hk; show bb ≤ wr.heap.size; omega) (((HB0.out : Below bb w W)).trans ((BW.out.mono (by omega)).trans (AL.out.mono (by omega)))) (by simp; omega))
      go_wp2
      have F : Hid (∀ (v : Value) (w' : World), OwnB w' bb v q.bytes → Grew w5 w' v5 v → RefEncPost w q (.returned (.tuple #[v, .int .i64 0])) w') := Lib.hid (fun v w' ho hg => refEnc_ok (by rw [HLG.out]; exact HL.out) ⟨v, rfl, by rw [HBB.out]; exact ho, by rw [HBB.out]; exact hg.below_ge (fun k hk => (X1.out.own.lt k hk).1) HWW.out (by have := HWW.out.size; have := HS0.out; have := HBB.out; have := X1.out.grew.size; have : wr.heap.size ≤ w5.heap.size := by { have h1 := X1.out.grew.size; have h2 := AL.out.size; omega }; omega)⟩)
      have FF := Lib.hid (F.out v5 w5 (by rw [HBY.out]; exact X1.out.own) (Grew.refl _ _))
      clear k0 F HWW
      go_wp2
      go_ret2
      exact FF.out
    | succ g =>
      have hk : (k : Int) < 1 := by omega
      have hk1 : k < 1 := by omega
      obtain ⟨s, hs⟩ : ∃ s : ByteArray, [q.key][k]? = some s := ⟨_, List.getElem?_eq_getElem (by simp; omega)⟩
      have hcs := CE.out k s hs
      have HT := Lib.hid (any_take_long _ k s hs hnl)
      clear hnl hs
      by_cases hl : (255 : Int) < (s.size : Int)
      · have F : Hid (RefEncPost w q (.returned (.tuple #[.slice none 0 0, .int .i64 5])) wr) := Lib.hid (refEnc_long (by
          rw [HLG.out]
          refine any_of_take _ (k + 1) ?_
          rw [HT.out]; simp [longB]; omega) ⟨rfl, by rw [HBB.out]; exact (HB0.out : Below bb w W).trans (BW.out.mono (by omega))⟩)
        go_wp2
        go_ret2
        exact F.out
      · go_wp2
        go_roundg g
        case measure => omega
        case rel => exact ⟨k + 1, by omega, by first | rfl | go_num, rfl, by rw [HT.out]; simp [longB]; omega⟩
set_option maxHeartbeats 3200000 in
set_option maxRecDepth 100000 in
theorem ref_enc_16 (q : ReqD) (w : World) (hk : q.kind = 16) : Calls Try.prog 28 #[.agg q.cells] w (RefEncPost w q) := by
  obtain ⟨i0, hi, hz0, hz1, hz2⟩ := info_parts infoStr
  have hkb : kindB 16 = true := by decide
  have HLG : Hid (q.long = ([q.key, q.plan.name] : List ByteArray).any longB) := Lib.hid (by unfold ReqD.long ReqD.texts; rw [hk]; rfl)
  have HKC : Hid (q.cells[0]? = some (.int .i64 16)) := Lib.hid (by rw [← hk]; rfl)
  have HBY : Hid (q.bytes = [byteOf 16] ++ encText q.key ++ encPlan q.plan) := Lib.hid (by unfold ReqD.bytes ReqD.nums ReqD.texts ReqD.more; rw [hk]; simp [encInts, encTexts])
  clear hk
  go_enter Try.func28, Try.ntmps28
  go_upto_region 1 with (fail)
  have hB0 := below_alloc w (.cells q.cells 25)
  have hblk := heap_alloc_new w (.cells q.cells 25)
  have hs0 : (w.alloc (.cells q.cells 25)).heap.size = w.heap.size + 1 := by simp
  generalize w.alloc (.cells q.cells 25) = W at *
  have HC : Hid (∀ o u, q.cells[o]? = some u → W.cell? ⟨w.heap.size, o, none⟩ = some u) := Lib.hid (fun o u h => by rw [cell_of_row W _ _ _ _ _ hblk]; exact h)
  have HS0 := Lib.hid hs0
  have HB0 := Lib.hid hB0
  clear hblk hs0 hB0
  generalize hbb : w.heap.size = bb at *
  have HBB := Lib.hid hbb
  clear hbb
  have k0 : W.cell? ⟨bb, 0, none⟩ = some (.int .i64 16) := HC.out 0 _ HKC.out
  have k1 : W.cell? ⟨bb, 1, none⟩ = some (.string q.key) := HC.out 1 _ rfl
  have k8 : W.cell? ⟨bb, 8, none⟩ = some (.string q.plan.name) := HC.out 8 _ rfl
  have hbl : bb < W.heap.size := by have := HS0.out; omega
  have hown : (W.alloc (.cells #[.string q.key] 9)).ownsRow W.heap.size 9 1 (.slice (some ⟨W.heap.size, 0, none⟩) 1 1) 1 [.string q.key] := World.ownsRow_lit W #[.string q.key] 1 (e := 9) (size := 1) (Nat.le_refl _) (by decide) rfl
  have OW : Hid _ := Lib.hid hown
  clear hown
  have hWs : Hid ((W.alloc (.cells #[.string q.key] 9)).heap.size = W.heap.size + 1) := Lib.hid (by simp)
  go_wp2_with (first
    | (go_at_call 53; refine (ref_kind 16 _).mono ?_; rintro e w' ⟨rfl, rfl⟩)
    | (at_builtin; refine wpList_append_lies _ rfl (.tmp 18) (.tmp 22) 114 rfl W.heap.size 9 i0 (.string ByteArray.empty) 1 16 Try.underlying114 hi hz0 hz1 hz2 rfl (by decide) (.slice (some ⟨W.heap.size, 0, none⟩) 1 1) 1 [.string q.key] rfl (OW.out.alloc _) ⟨W.heap.size + 1, 0, none⟩ 1 1 [.string q.plan.name] rfl rfl ?c1 (strs_oneCell [q.plan.name]) (by decide) (by decide) (by decide) (by simp; omega) (W.heap.size + 2) (by simp) ?_))
  case c1 =>
    intro j u hj
    rw [Addr.add_lit, Nat.zero_add, World.cell?_alloc_at _ _ _ _ hWs.out.symm]
    simpa using hj
  intro gs cap w4 hO hgrow hg hg4
  have hgs : W.heap.size ≤ gs := by
    rcases hg with h | h
    · exact Nat.le_of_eq (show W.heap.size = gs by injection h)
    · omega
  have hBa : Below W.heap.size W w4 := ((below_alloc W (.cells #[.string q.key] 9)).trans ((below_alloc _ _).mono (by simp))).grown hgrow (by simp; omega) (fun k hk => by cases hk; exact Nat.le_refl _)
  have BW := Lib.hid hBa
  have CE : Hid (∀ k s, [q.key, q.plan.name][k]? = some s → w4.cell? ⟨gs, k, none⟩ = some (.string s)) := Lib.hid (fun k s h => by
    have := hO.cells (g := gs) rfl k (.string s) (by show ([q.key, q.plan.name].map Value.string)[k]? = _; rw [List.getElem?_map, h]; rfl)
    rwa [Addr.add_lit, Nat.zero_add] at this)
  clear hO hgrow hg hBa OW hWs
  go_wp2
  have hsz4 : W.heap.size ≤ w4.heap.size := BW.out.size
  clear k0 k1 k8
  have CQ : Hid (∀ o u, q.cells[o]? = some u → w4.cell? ⟨bb, o, none⟩ = some u) := Lib.hid (fun o u h => (BW.out.cell (p := ⟨bb, o, none⟩) (by first | exact hbl | (show bb < _; omega))).trans (HC.out o u h))
  go_loopg [5] 2 (fun g s5 wr => ∃ k : Nat, k + g = 2 ∧ s5 = .int .i64 k ∧ wr = w4 ∧ ([q.key, q.plan.name].take k).any longB = false)
  case atStart => exact ⟨0, by omega, rfl, rfl, rfl⟩
  case round =>
    obtain ⟨k, hkg, rfl, rfl, hnl⟩ := hrel
    cases gk with
    | zero =>
      have hk : ¬ ((k : Int) < 2) := by omega
      have HL : Hid ([q.key, q.plan.name].any longB = false) := Lib.hid (by rw [List.take_of_length_le (by simp; omega)] at hnl; exact hnl)
      clear hnl
      have k0 : wr.cell? ⟨bb, 0, none⟩ = some (.int .i64 16) := CQ.out 0 _ HKC.out
      have k1 : wr.cell? ⟨bb, 1, none⟩ = some (.string q.key) := CQ.out 1 _ rfl
      have k8 : wr.cell? ⟨bb, 8, none⟩ = some (.string q.plan.name) := CQ.out 8 _ rfl
      have HSZ : Hid (∀ s ∈ [q.key, q.plan.name], s.size ≤ 255) := Lib.hid (fun s hs => by
        have := HL.out
        rw [List.any_eq_false] at this
        have h2 := this s hs
        simp [longB] at h2
        omega)
      have hown5 : Hid (OwnB (wr.alloc (.cells #[.int .u8 16] 5)) bb (.slice (some ⟨wr.heap.size, 0, none⟩) 1 1) [byteOf 16]) := Lib.hid (own_lit wr bb 1 _ [byteOf 16] rfl rfl (by omega) (by decide))
      have hal := below_alloc wr (.cells #[.int .u8 16] 5)
      have AL := Lib.hid hal
      clear hal
      have X0 : Hid (ReqW (wr.alloc (.cells #[.int .u8 16] 5)) (wr.alloc (.cells #[.int .u8 16] 5)) bb bb (.slice (some ⟨wr.heap.size, 0, none⟩) 1 1) (.slice (some ⟨wr.heap.size, 0, none⟩) 1 1) [byteOf 16] q 1) := Lib.hid
        ⟨hown5.out, Grew.refl _ _, by simp; omega, fun e => absurd (show wr.heap.size = bb by injection e) (by omega), by simp; omega, fun o u h => (AL.out.cell (p := ⟨bb, o, none⟩) (by show bb < _; omega)).trans (CQ.out o u h), by simp⟩
      clear hown5
      have hbw : bb < wr.heap.size := by omega
      have hne : wr.heap.size ≠ bb := by omega
      go_upto_region 20 with (go_at_call 54; refine (rqw_text q.key X0.out (HSZ.out _ (by simp)) (by decide)).mono ?_; rintro e w5 ⟨v5, rfl, X1'⟩; have X1 := Lib.hid X1'; have k0 : w5.cell? ⟨bb, 0, none⟩ = some (.int .i64 16) := X1'.cells 0 _ HKC.out; clear X1')
      have HWW : Hid (Below bb w w5) := Lib.hid (X1.out.grew.below_ge (fun k hk => by cases hk; show bb ≤ wr.heap.size; omega) (((HB0.out : Below bb w W)).trans ((BW.out.mono (by omega)).trans (AL.out.mono (by omega)))) (by simp; omega))
      have k8 : w5.cell? ⟨bb, 8, none⟩ = some (.string q.plan.name) := X1.out.cells 8 _ rfl
      have hrg : w5.rangeAt bb 8 q.plan.cells.toList := fun j u hj => by
        refine X1.out.cells (8 + j) u ?_
        have e : q.cells.toList = [.int .i64 q.kind, .string q.key, .int .i64 q.id, .int .i64 q.n, .int .i64 q.ttl, .int .i64 q.of, .string q.name, .string q.secret] ++ q.plan.cells.toList := rfl
        rw [← Array.getElem?_toList, e, List.getElem?_append_right (by simp)]
        simpa using hj
      have RG := Lib.hid hrg
      clear hrg
      go_wp2_with (first
        | (refine wpList_load_mid rfl 23 (.tmp 111) rfl bb 8 rfl q.plan.cells.toList _ RG.out Try.underlying23 rfl (by kernel_rfl) ?_)
        | (go_at_call 56; refine (rqw_plan q.plan X1.out (HSZ.out _ (by simp)) (by decide)).mono ?_; rintro e w6 ⟨v6, rfl, X2'⟩; have X2 := Lib.hid X2'; clear X2'))
      have F : Hid (∀ (v : Value) (w' : World), OwnB w' bb v q.bytes → Grew w5 w' v5 v → RefEncPost w q (.returned (.tuple #[v, .int .i64 0])) w') := Lib.hid (fun v w' ho hg => refEnc_ok (by rw [HLG.out]; exact HL.out) ⟨v, rfl, by rw [HBB.out]; exact ho, by rw [HBB.out]; exact hg.below_ge (fun k hk => (X1.out.own.lt k hk).1) HWW.out (by have := HWW.out.size; have := HS0.out; have := HBB.out; have := X1.out.grew.size; have : wr.heap.size ≤ w5.heap.size := by { have h1 := X1.out.grew.size; have h2 := AL.out.size; omega }; omega)⟩)
      have FF := Lib.hid (refEnc_ok (w := w) (q := q) (e := .returned (.tuple #[v6, .int .i64 0])) (w' := w6) (by rw [HLG.out]; exact HL.out) ⟨v6, rfl, by rw [HBB.out, HBY.out]; exact X2.out.own, by rw [HBB.out]; exact X2.out.grew.below_ge (fun k hk => by cases hk; show bb ≤ wr.heap.size; omega) ((HB0.out : Below bb w W).trans ((BW.out.mono (by omega)).trans (AL.out.mono (by omega)))) (by simp; omega)⟩)
      clear k0 F HWW
      go_wp2
      go_ret2
      exact FF.out
    | succ g =>
      have hk : (k : Int) < 2 := by omega
      have hk1 : k < 2 := by omega
      obtain ⟨s, hs⟩ : ∃ s : ByteArray, [q.key, q.plan.name][k]? = some s := ⟨_, List.getElem?_eq_getElem (by simp; omega)⟩
      have hcs := CE.out k s hs
      have HT := Lib.hid (any_take_long _ k s hs hnl)
      clear hnl hs
      by_cases hl : (255 : Int) < (s.size : Int)
      · have F : Hid (RefEncPost w q (.returned (.tuple #[.slice none 0 0, .int .i64 5])) wr) := Lib.hid (refEnc_long (by
          rw [HLG.out]
          refine any_of_take _ (k + 1) ?_
          rw [HT.out]; simp [longB]; omega) ⟨rfl, by rw [HBB.out]; exact (HB0.out : Below bb w W).trans (BW.out.mono (by omega))⟩)
        go_wp2
        go_ret2
        exact F.out
      · go_wp2
        go_roundg g
        case measure => omega
        case rel => exact ⟨k + 1, by omega, by first | rfl | go_num, rfl, by rw [HT.out]; simp [longB]; omega⟩
set_option maxHeartbeats 3200000 in
set_option maxRecDepth 100000 in
theorem ref_enc_17 (q : ReqD) (w : World) (hk : q.kind = 17) : Calls Try.prog 28 #[.agg q.cells] w (RefEncPost w q) := by
  obtain ⟨i0, hi, hz0, hz1, hz2⟩ := info_parts infoStr
  have hkb : kindB 17 = true := by decide
  have HLG : Hid (q.long = ([q.key, q.name, q.secret, q.plan.name] : List ByteArray).any longB) := Lib.hid (by unfold ReqD.long ReqD.texts; rw [hk]; rfl)
  have HKC : Hid (q.cells[0]? = some (.int .i64 17)) := Lib.hid (by rw [← hk]; rfl)
  have HBY : Hid (q.bytes = [byteOf 17] ++ encText q.key ++ encText q.name ++ encText q.secret ++ encText q.plan.name ++ encInt q.plan.version) := Lib.hid (by unfold ReqD.bytes ReqD.nums ReqD.texts ReqD.more; rw [hk]; simp [encInts, encTexts])
  clear hk
  go_enter Try.func28, Try.ntmps28
  go_upto_region 1 with (fail)
  have hB0 := below_alloc w (.cells q.cells 25)
  have hblk := heap_alloc_new w (.cells q.cells 25)
  have hs0 : (w.alloc (.cells q.cells 25)).heap.size = w.heap.size + 1 := by simp
  generalize w.alloc (.cells q.cells 25) = W at *
  have HC : Hid (∀ o u, q.cells[o]? = some u → W.cell? ⟨w.heap.size, o, none⟩ = some u) := Lib.hid (fun o u h => by rw [cell_of_row W _ _ _ _ _ hblk]; exact h)
  have HS0 := Lib.hid hs0
  have HB0 := Lib.hid hB0
  clear hblk hs0 hB0
  generalize hbb : w.heap.size = bb at *
  have HBB := Lib.hid hbb
  clear hbb
  have k0 : W.cell? ⟨bb, 0, none⟩ = some (.int .i64 17) := HC.out 0 _ HKC.out
  have k1 : W.cell? ⟨bb, 1, none⟩ = some (.string q.key) := HC.out 1 _ rfl
  have k6 : W.cell? ⟨bb, 6, none⟩ = some (.string q.name) := HC.out 6 _ rfl
  have k7 : W.cell? ⟨bb, 7, none⟩ = some (.string q.secret) := HC.out 7 _ rfl
  have k8 : W.cell? ⟨bb, 8, none⟩ = some (.string q.plan.name) := HC.out 8 _ rfl
  have k9 : W.cell? ⟨bb, 9, none⟩ = some (.int .i64 q.plan.version) := HC.out 9 _ rfl
  have hbl : bb < W.heap.size := by have := HS0.out; omega
  have hown : (W.alloc (.cells #[.string q.key] 9)).ownsRow W.heap.size 9 1 (.slice (some ⟨W.heap.size, 0, none⟩) 1 1) 1 [.string q.key] := World.ownsRow_lit W #[.string q.key] 1 (e := 9) (size := 1) (Nat.le_refl _) (by decide) rfl
  have OW : Hid _ := Lib.hid hown
  clear hown
  have hWs : Hid ((W.alloc (.cells #[.string q.key] 9)).heap.size = W.heap.size + 1) := Lib.hid (by simp)
  go_wp2_with (first
    | (go_at_call 53; refine (ref_kind 17 _).mono ?_; rintro e w' ⟨rfl, rfl⟩)
    | (at_builtin; refine wpList_append_lies _ rfl (.tmp 26) (.tmp 34) 114 rfl W.heap.size 9 i0 (.string ByteArray.empty) 1 16 Try.underlying114 hi hz0 hz1 hz2 rfl (by decide) (.slice (some ⟨W.heap.size, 0, none⟩) 1 1) 1 [.string q.key] rfl (OW.out.alloc _) ⟨W.heap.size + 1, 0, none⟩ 3 3 [.string q.name, .string q.secret, .string q.plan.name] rfl rfl ?c1 (strs_oneCell [q.name, q.secret, q.plan.name]) (by decide) (by decide) (by decide) (by simp; omega) (W.heap.size + 2) (by simp) ?_))
  case c1 =>
    intro j u hj
    rw [Addr.add_lit, Nat.zero_add, World.cell?_alloc_at _ _ _ _ hWs.out.symm]
    simpa using hj
  intro gs cap w4 hO hgrow hg hg4
  have hgs : W.heap.size ≤ gs := by
    rcases hg with h | h
    · exact Nat.le_of_eq (show W.heap.size = gs by injection h)
    · omega
  have hBa : Below W.heap.size W w4 := ((below_alloc W (.cells #[.string q.key] 9)).trans ((below_alloc _ _).mono (by simp))).grown hgrow (by simp; omega) (fun k hk => by cases hk; exact Nat.le_refl _)
  have BW := Lib.hid hBa
  have CE : Hid (∀ k s, [q.key, q.name, q.secret, q.plan.name][k]? = some s → w4.cell? ⟨gs, k, none⟩ = some (.string s)) := Lib.hid (fun k s h => by
    have := hO.cells (g := gs) rfl k (.string s) (by show ([q.key, q.name, q.secret, q.plan.name].map Value.string)[k]? = _; rw [List.getElem?_map, h]; rfl)
    rwa [Addr.add_lit, Nat.zero_add] at this)
  clear hO hgrow hg hBa OW hWs
  go_wp2
  have hsz4 : W.heap.size ≤ w4.heap.size := BW.out.size
  clear k0 k1 k6 k7 k8 k9
  have CQ : Hid (∀ o u, q.cells[o]? = some u → w4.cell? ⟨bb, o, none⟩ = some u) := Lib.hid (fun o u h => (BW.out.cell (p := ⟨bb, o, none⟩) (by first | exact hbl | (show bb < _; omega))).trans (HC.out o u h))
  go_loopg [5] 4 (fun g s5 wr => ∃ k : Nat, k + g = 4 ∧ s5 = .int .i64 k ∧ wr = w4 ∧ ([q.key, q.name, q.secret, q.plan.name].take k).any longB = false)
  case atStart => exact ⟨0, by omega, rfl, rfl, rfl⟩
  case round =>
    obtain ⟨k, hkg, rfl, rfl, hnl⟩ := hrel
    cases gk with
    | zero =>
      have hk : ¬ ((k : Int) < 4) := by omega
      have HL : Hid ([q.key, q.name, q.secret, q.plan.name].any longB = false) := Lib.hid (by rw [List.take_of_length_le (by simp; omega)] at hnl; exact hnl)
      clear hnl
      have k0 : wr.cell? ⟨bb, 0, none⟩ = some (.int .i64 17) := CQ.out 0 _ HKC.out
      have k1 : wr.cell? ⟨bb, 1, none⟩ = some (.string q.key) := CQ.out 1 _ rfl
      have k6 : wr.cell? ⟨bb, 6, none⟩ = some (.string q.name) := CQ.out 6 _ rfl
      have k7 : wr.cell? ⟨bb, 7, none⟩ = some (.string q.secret) := CQ.out 7 _ rfl
      have k8 : wr.cell? ⟨bb, 8, none⟩ = some (.string q.plan.name) := CQ.out 8 _ rfl
      have k9 : wr.cell? ⟨bb, 9, none⟩ = some (.int .i64 q.plan.version) := CQ.out 9 _ rfl
      have HSZ : Hid (∀ s ∈ [q.key, q.name, q.secret, q.plan.name], s.size ≤ 255) := Lib.hid (fun s hs => by
        have := HL.out
        rw [List.any_eq_false] at this
        have h2 := this s hs
        simp [longB] at h2
        omega)
      have hown5 : Hid (OwnB (wr.alloc (.cells #[.int .u8 17] 5)) bb (.slice (some ⟨wr.heap.size, 0, none⟩) 1 1) [byteOf 17]) := Lib.hid (own_lit wr bb 1 _ [byteOf 17] rfl rfl (by omega) (by decide))
      have hal := below_alloc wr (.cells #[.int .u8 17] 5)
      have AL := Lib.hid hal
      clear hal
      have X0 : Hid (ReqW (wr.alloc (.cells #[.int .u8 17] 5)) (wr.alloc (.cells #[.int .u8 17] 5)) bb bb (.slice (some ⟨wr.heap.size, 0, none⟩) 1 1) (.slice (some ⟨wr.heap.size, 0, none⟩) 1 1) [byteOf 17] q 1) := Lib.hid
        ⟨hown5.out, Grew.refl _ _, by simp; omega, fun e => absurd (show wr.heap.size = bb by injection e) (by omega), by simp; omega, fun o u h => (AL.out.cell (p := ⟨bb, o, none⟩) (by show bb < _; omega)).trans (CQ.out o u h), by simp⟩
      clear hown5
      have hbw : bb < wr.heap.size := by omega
      have hne : wr.heap.size ≠ bb := by omega
      go_upto_region 20 with (go_at_call 54; refine (rqw_text q.key X0.out (HSZ.out _ (by simp)) (by decide)).mono ?_; rintro e w5 ⟨v5, rfl, X1'⟩; have X1 := Lib.hid X1'; have k0 : w5.cell? ⟨bb, 0, none⟩ = some (.int .i64 17) := X1'.cells 0 _ HKC.out; clear X1')
      have HWW : Hid (Below bb w w5) := Lib.hid (X1.out.grew.below_ge (fun k hk => by cases hk; show bb ≤ wr.heap.size; omega) (((HB0.out : Below bb w W)).trans ((BW.out.mono (by omega)).trans (AL.out.mono (by omega)))) (by simp; omega))
      have k6 : w5.cell? ⟨bb, 6, none⟩ = some (.string q.name) := X1.out.cells 6 _ rfl
      have k7 : w5.cell? ⟨bb, 7, none⟩ = some (.string q.secret) := X1.out.cells 7 _ rfl
      have k8 : w5.cell? ⟨bb, 8, none⟩ = some (.string q.plan.name) := X1.out.cells 8 _ rfl
      have k9 : w5.cell? ⟨bb, 9, none⟩ = some (.int .i64 q.plan.version) := X1.out.cells 9 _ rfl
      go_upto_region 30 with (fail)
      clear k0
      go_region_held3 (fun w' => w'.cell? ⟨bb, 6, none⟩ = some (.string q.name) ∧ w'.cell? ⟨bb, 7, none⟩ = some (.string q.secret) ∧ w'.cell? ⟨bb, 8, none⟩ = some (.string q.plan.name) ∧ w'.cell? ⟨bb, 9, none⟩ = some (.int .i64 q.plan.version)) (first | exact ⟨q6, q7, q8, q9⟩ | exact ⟨k6, k7, k8, k9⟩ | go_keep)
        (first
          | (go_at_call_of 54 (Value.string q.name)
             refine (rqw_text q.name X1.out.drew (HSZ.out _ (by simp)) (by decide)).mono ?_
             rintro e w6 ⟨v6, rfl, s6⟩
             have X2 := Lib.hid s6
             have q6 : w6.cell? ⟨bb, 6, none⟩ = some (.string q.name) := s6.cells 6 _ rfl
             have q7 : w6.cell? ⟨bb, 7, none⟩ = some (.string q.secret) := s6.cells 7 _ rfl
             have q8 : w6.cell? ⟨bb, 8, none⟩ = some (.string q.plan.name) := s6.cells 8 _ rfl
             have q9 : w6.cell? ⟨bb, 9, none⟩ = some (.int .i64 q.plan.version) := s6.cells 9 _ rfl
             clear s6)
          | (go_at_call_of 54 (Value.string q.secret)
             refine (rqw_text q.secret X2.out (HSZ.out _ (by simp)) (by decide)).mono ?_
             rintro e w7 ⟨v7, rfl, s7⟩
             have X3 := Lib.hid s7
             have q6 : w7.cell? ⟨bb, 6, none⟩ = some (.string q.name) := s7.cells 6 _ rfl
             have q7 : w7.cell? ⟨bb, 7, none⟩ = some (.string q.secret) := s7.cells 7 _ rfl
             have q8 : w7.cell? ⟨bb, 8, none⟩ = some (.string q.plan.name) := s7.cells 8 _ rfl
             have q9 : w7.cell? ⟨bb, 9, none⟩ = some (.int .i64 q.plan.version) := s7.cells 9 _ rfl
             clear s7)
          | (go_at_call_of 54 (Value.string q.plan.name)
             refine (rqw_text q.plan.name X3.out (HSZ.out _ (by simp)) (by decide)).mono ?_
             rintro e w8 ⟨v8, rfl, s8⟩
             have X4 := Lib.hid s8
             have q6 : w8.cell? ⟨bb, 6, none⟩ = some (.string q.name) := s8.cells 6 _ rfl
             have q7 : w8.cell? ⟨bb, 7, none⟩ = some (.string q.secret) := s8.cells 7 _ rfl
             have q8 : w8.cell? ⟨bb, 8, none⟩ = some (.string q.plan.name) := s8.cells 8 _ rfl
             have q9 : w8.cell? ⟨bb, 9, none⟩ = some (.int .i64 q.plan.version) := s8.cells 9 _ rfl
             clear s8)
          | (go_at_call_of 55 (Value.int .i64 q.plan.version)
             refine (rqw_int q.plan.version X4.out (by decide)).mono ?_
             rintro e w9 ⟨v9, rfl, s9⟩
             have X5 := Lib.hid s9
             have q6 : w9.cell? ⟨bb, 6, none⟩ = some (.string q.name) := s9.cells 6 _ rfl
             have q7 : w9.cell? ⟨bb, 7, none⟩ = some (.string q.secret) := s9.cells 7 _ rfl
             have q8 : w9.cell? ⟨bb, 8, none⟩ = some (.string q.plan.name) := s9.cells 8 _ rfl
             have q9 : w9.cell? ⟨bb, 9, none⟩ = some (.int .i64 q.plan.version) := s9.cells 9 _ rfl
             clear s9))
      clear q6 k6 q7 k7 q8 k8 q9 k9
      have F : Hid (∀ (v : Value) (w' : World), OwnB w' bb v q.bytes → Grew w5 w' v5 v → RefEncPost w q (.returned (.tuple #[v, .int .i64 0])) w') := Lib.hid (fun v w' ho hg => refEnc_ok (by rw [HLG.out]; exact HL.out) ⟨v, rfl, by rw [HBB.out]; exact ho, by rw [HBB.out]; exact hg.below_ge (fun k hk => (X1.out.own.lt k hk).1) HWW.out (by have := HWW.out.size; have := HS0.out; have := HBB.out; have := X1.out.grew.size; have : wr.heap.size ≤ w5.heap.size := by { have h1 := X1.out.grew.size; have h2 := AL.out.size; omega }; omega)⟩)
      have FF := Lib.hid (refEnc_ok (w := w) (q := q) (e := .returned (.tuple #[v9, .int .i64 0])) (w' := w9) (by rw [HLG.out]; exact HL.out) ⟨v9, rfl, by rw [HBB.out, HBY.out]; exact X5.out.own, by rw [HBB.out]; exact X5.out.grew.below_ge (fun k hk => by cases hk; show bb ≤ wr.heap.size; omega) ((HB0.out : Below bb w W).trans ((BW.out.mono (by omega)).trans (AL.out.mono (by omega)))) (by simp; omega)⟩)
      clear  F HWW
      go_wp2
      go_ret2
      exact FF.out
    | succ g =>
      have hk : (k : Int) < 4 := by omega
      have hk1 : k < 4 := by omega
      obtain ⟨s, hs⟩ : ∃ s : ByteArray, [q.key, q.name, q.secret, q.plan.name][k]? = some s := ⟨_, List.getElem?_eq_getElem (by simp; omega)⟩
      have hcs := CE.out k s hs
      have HT := Lib.hid (any_take_long _ k s hs hnl)
      clear hnl hs
      by_cases hl : (255 : Int) < (s.size : Int)
      · have F : Hid (RefEncPost w q (.returned (.tuple #[.slice none 0 0, .int .i64 5])) wr) := Lib.hid (refEnc_long (by
          rw [HLG.out]
          refine any_of_take _ (k + 1) ?_
          rw [HT.out]; simp [longB]; omega) ⟨rfl, by rw [HBB.out]; exact (HB0.out : Below bb w W).trans (BW.out.mono (by omega))⟩)
        go_wp2
        go_ret2
        exact F.out
      · go_wp2
        go_roundg g
        case measure => omega
        case rel => exact ⟨k + 1, by omega, by first | rfl | go_num, rfl, by rw [HT.out]; simp [longB]; omega⟩
set_option maxHeartbeats 3200000 in
set_option maxRecDepth 100000 in
theorem ref_enc_18 (q : ReqD) (w : World) (hk : q.kind = 18) : Calls Try.prog 28 #[.agg q.cells] w (RefEncPost w q) := by
  obtain ⟨i0, hi, hz0, hz1, hz2⟩ := info_parts infoStr
  have hkb : kindB 18 = true := by decide
  have HLG : Hid (q.long = ([q.key, q.name, q.plan.name] : List ByteArray).any longB) := Lib.hid (by unfold ReqD.long ReqD.texts; rw [hk]; rfl)
  have HKC : Hid (q.cells[0]? = some (.int .i64 18)) := Lib.hid (by rw [← hk]; rfl)
  have HBY : Hid (q.bytes = [byteOf 18] ++ encText q.key ++ encText q.name ++ encText q.plan.name ++ encInt q.plan.version) := Lib.hid (by unfold ReqD.bytes ReqD.nums ReqD.texts ReqD.more; rw [hk]; simp [encInts, encTexts])
  clear hk
  go_enter Try.func28, Try.ntmps28
  go_upto_region 1 with (fail)
  have hB0 := below_alloc w (.cells q.cells 25)
  have hblk := heap_alloc_new w (.cells q.cells 25)
  have hs0 : (w.alloc (.cells q.cells 25)).heap.size = w.heap.size + 1 := by simp
  generalize w.alloc (.cells q.cells 25) = W at *
  have HC : Hid (∀ o u, q.cells[o]? = some u → W.cell? ⟨w.heap.size, o, none⟩ = some u) := Lib.hid (fun o u h => by rw [cell_of_row W _ _ _ _ _ hblk]; exact h)
  have HS0 := Lib.hid hs0
  have HB0 := Lib.hid hB0
  clear hblk hs0 hB0
  generalize hbb : w.heap.size = bb at *
  have HBB := Lib.hid hbb
  clear hbb
  have k0 : W.cell? ⟨bb, 0, none⟩ = some (.int .i64 18) := HC.out 0 _ HKC.out
  have k1 : W.cell? ⟨bb, 1, none⟩ = some (.string q.key) := HC.out 1 _ rfl
  have k6 : W.cell? ⟨bb, 6, none⟩ = some (.string q.name) := HC.out 6 _ rfl
  have k8 : W.cell? ⟨bb, 8, none⟩ = some (.string q.plan.name) := HC.out 8 _ rfl
  have k9 : W.cell? ⟨bb, 9, none⟩ = some (.int .i64 q.plan.version) := HC.out 9 _ rfl
  have hbl : bb < W.heap.size := by have := HS0.out; omega
  have hown : (W.alloc (.cells #[.string q.key] 9)).ownsRow W.heap.size 9 1 (.slice (some ⟨W.heap.size, 0, none⟩) 1 1) 1 [.string q.key] := World.ownsRow_lit W #[.string q.key] 1 (e := 9) (size := 1) (Nat.le_refl _) (by decide) rfl
  have OW : Hid _ := Lib.hid hown
  clear hown
  have hWs : Hid ((W.alloc (.cells #[.string q.key] 9)).heap.size = W.heap.size + 1) := Lib.hid (by simp)
  go_wp2_with (first
    | (go_at_call 53; refine (ref_kind 18 _).mono ?_; rintro e w' ⟨rfl, rfl⟩)
    | (at_builtin; refine wpList_append_lies _ rfl (.tmp 38) (.tmp 44) 114 rfl W.heap.size 9 i0 (.string ByteArray.empty) 1 16 Try.underlying114 hi hz0 hz1 hz2 rfl (by decide) (.slice (some ⟨W.heap.size, 0, none⟩) 1 1) 1 [.string q.key] rfl (OW.out.alloc _) ⟨W.heap.size + 1, 0, none⟩ 2 2 [.string q.name, .string q.plan.name] rfl rfl ?c1 (strs_oneCell [q.name, q.plan.name]) (by decide) (by decide) (by decide) (by simp; omega) (W.heap.size + 2) (by simp) ?_))
  case c1 =>
    intro j u hj
    rw [Addr.add_lit, Nat.zero_add, World.cell?_alloc_at _ _ _ _ hWs.out.symm]
    simpa using hj
  intro gs cap w4 hO hgrow hg hg4
  have hgs : W.heap.size ≤ gs := by
    rcases hg with h | h
    · exact Nat.le_of_eq (show W.heap.size = gs by injection h)
    · omega
  have hBa : Below W.heap.size W w4 := ((below_alloc W (.cells #[.string q.key] 9)).trans ((below_alloc _ _).mono (by simp))).grown hgrow (by simp; omega) (fun k hk => by cases hk; exact Nat.le_refl _)
  have BW := Lib.hid hBa
  have CE : Hid (∀ k s, [q.key, q.name, q.plan.name][k]? = some s → w4.cell? ⟨gs, k, none⟩ = some (.string s)) := Lib.hid (fun k s h => by
    have := hO.cells (g := gs) rfl k (.string s) (by show ([q.key, q.name, q.plan.name].map Value.string)[k]? = _; rw [List.getElem?_map, h]; rfl)
    rwa [Addr.add_lit, Nat.zero_add] at this)
  clear hO hgrow hg hBa OW hWs
  go_wp2
  have hsz4 : W.heap.size ≤ w4.heap.size := BW.out.size
  clear k0 k1 k6 k8 k9
  have CQ : Hid (∀ o u, q.cells[o]? = some u → w4.cell? ⟨bb, o, none⟩ = some u) := Lib.hid (fun o u h => (BW.out.cell (p := ⟨bb, o, none⟩) (by first | exact hbl | (show bb < _; omega))).trans (HC.out o u h))
  go_loopg [5] 3 (fun g s5 wr => ∃ k : Nat, k + g = 3 ∧ s5 = .int .i64 k ∧ wr = w4 ∧ ([q.key, q.name, q.plan.name].take k).any longB = false)
  case atStart => exact ⟨0, by omega, rfl, rfl, rfl⟩
  case round =>
    obtain ⟨k, hkg, rfl, rfl, hnl⟩ := hrel
    cases gk with
    | zero =>
      have hk : ¬ ((k : Int) < 3) := by omega
      have HL : Hid ([q.key, q.name, q.plan.name].any longB = false) := Lib.hid (by rw [List.take_of_length_le (by simp; omega)] at hnl; exact hnl)
      clear hnl
      have k0 : wr.cell? ⟨bb, 0, none⟩ = some (.int .i64 18) := CQ.out 0 _ HKC.out
      have k1 : wr.cell? ⟨bb, 1, none⟩ = some (.string q.key) := CQ.out 1 _ rfl
      have k6 : wr.cell? ⟨bb, 6, none⟩ = some (.string q.name) := CQ.out 6 _ rfl
      have k8 : wr.cell? ⟨bb, 8, none⟩ = some (.string q.plan.name) := CQ.out 8 _ rfl
      have k9 : wr.cell? ⟨bb, 9, none⟩ = some (.int .i64 q.plan.version) := CQ.out 9 _ rfl
      have HSZ : Hid (∀ s ∈ [q.key, q.name, q.plan.name], s.size ≤ 255) := Lib.hid (fun s hs => by
        have := HL.out
        rw [List.any_eq_false] at this
        have h2 := this s hs
        simp [longB] at h2
        omega)
      have hown5 : Hid (OwnB (wr.alloc (.cells #[.int .u8 18] 5)) bb (.slice (some ⟨wr.heap.size, 0, none⟩) 1 1) [byteOf 18]) := Lib.hid (own_lit wr bb 1 _ [byteOf 18] rfl rfl (by omega) (by decide))
      have hal := below_alloc wr (.cells #[.int .u8 18] 5)
      have AL := Lib.hid hal
      clear hal
      have X0 : Hid (ReqW (wr.alloc (.cells #[.int .u8 18] 5)) (wr.alloc (.cells #[.int .u8 18] 5)) bb bb (.slice (some ⟨wr.heap.size, 0, none⟩) 1 1) (.slice (some ⟨wr.heap.size, 0, none⟩) 1 1) [byteOf 18] q 1) := Lib.hid
        ⟨hown5.out, Grew.refl _ _, by simp; omega, fun e => absurd (show wr.heap.size = bb by injection e) (by omega), by simp; omega, fun o u h => (AL.out.cell (p := ⟨bb, o, none⟩) (by show bb < _; omega)).trans (CQ.out o u h), by simp⟩
      clear hown5
      have hbw : bb < wr.heap.size := by omega
      have hne : wr.heap.size ≠ bb := by omega
      go_upto_region 20 with (go_at_call 54; refine (rqw_text q.key X0.out (HSZ.out _ (by simp)) (by decide)).mono ?_; rintro e w5 ⟨v5, rfl, X1'⟩; have X1 := Lib.hid X1'; have k0 : w5.cell? ⟨bb, 0, none⟩ = some (.int .i64 18) := X1'.cells 0 _ HKC.out; clear X1')
      have HWW : Hid (Below bb w w5) := Lib.hid (X1.out.grew.below_ge (fun k hk => by cases hk; show bb ≤ wr.heap.size; omega) (((HB0.out : Below bb w W)).trans ((BW.out.mono (by omega)).trans (AL.out.mono (by omega)))) (by simp; omega))
      have k6 : w5.cell? ⟨bb, 6, none⟩ = some (.string q.name) := X1.out.cells 6 _ rfl
      have k8 : w5.cell? ⟨bb, 8, none⟩ = some (.string q.plan.name) := X1.out.cells 8 _ rfl
      have k9 : w5.cell? ⟨bb, 9, none⟩ = some (.int .i64 q.plan.version) := X1.out.cells 9 _ rfl
      go_upto_region 32 with (fail)
      clear k0
      go_region_held3 (fun w' => w'.cell? ⟨bb, 6, none⟩ = some (.string q.name) ∧ w'.cell? ⟨bb, 8, none⟩ = some (.string q.plan.name) ∧ w'.cell? ⟨bb, 9, none⟩ = some (.int .i64 q.plan.version)) (first | exact ⟨q6, q8, q9⟩ | exact ⟨k6, k8, k9⟩ | go_keep)
        (first
          | (go_at_call_of 54 (Value.string q.name)
             refine (rqw_text q.name X1.out.drew (HSZ.out _ (by simp)) (by decide)).mono ?_
             rintro e w6 ⟨v6, rfl, s6⟩
             have X2 := Lib.hid s6
             have q6 : w6.cell? ⟨bb, 6, none⟩ = some (.string q.name) := s6.cells 6 _ rfl
             have q8 : w6.cell? ⟨bb, 8, none⟩ = some (.string q.plan.name) := s6.cells 8 _ rfl
             have q9 : w6.cell? ⟨bb, 9, none⟩ = some (.int .i64 q.plan.version) := s6.cells 9 _ rfl
             clear s6)
          | (go_at_call_of 54 (Value.string q.plan.name)
             refine (rqw_text q.plan.name X2.out (HSZ.out _ (by simp)) (by decide)).mono ?_
             rintro e w7 ⟨v7, rfl, s7⟩
             have X3 := Lib.hid s7
             have q6 : w7.cell? ⟨bb, 6, none⟩ = some (.string q.name) := s7.cells 6 _ rfl
             have q8 : w7.cell? ⟨bb, 8, none⟩ = some (.string q.plan.name) := s7.cells 8 _ rfl
             have q9 : w7.cell? ⟨bb, 9, none⟩ = some (.int .i64 q.plan.version) := s7.cells 9 _ rfl
             clear s7)
          | (go_at_call_of 55 (Value.int .i64 q.plan.version)
             refine (rqw_int q.plan.version X3.out (by decide)).mono ?_
             rintro e w8 ⟨v8, rfl, s8⟩
             have X4 := Lib.hid s8
             have q6 : w8.cell? ⟨bb, 6, none⟩ = some (.string q.name) := s8.cells 6 _ rfl
             have q8 : w8.cell? ⟨bb, 8, none⟩ = some (.string q.plan.name) := s8.cells 8 _ rfl
             have q9 : w8.cell? ⟨bb, 9, none⟩ = some (.int .i64 q.plan.version) := s8.cells 9 _ rfl
             clear s8))
      clear q6 k6 q8 k8 q9 k9
      have F : Hid (∀ (v : Value) (w' : World), OwnB w' bb v q.bytes → Grew w5 w' v5 v → RefEncPost w q (.returned (.tuple #[v, .int .i64 0])) w') := Lib.hid (fun v w' ho hg => refEnc_ok (by rw [HLG.out]; exact HL.out) ⟨v, rfl, by rw [HBB.out]; exact ho, by rw [HBB.out]; exact hg.below_ge (fun k hk => (X1.out.own.lt k hk).1) HWW.out (by have := HWW.out.size; have := HS0.out; have := HBB.out; have := X1.out.grew.size; have : wr.heap.size ≤ w5.heap.size := by { have h1 := X1.out.grew.size; have h2 := AL.out.size; omega }; omega)⟩)
      have FF := Lib.hid (refEnc_ok (w := w) (q := q) (e := .returned (.tuple #[v8, .int .i64 0])) (w' := w8) (by rw [HLG.out]; exact HL.out) ⟨v8, rfl, by rw [HBB.out, HBY.out]; exact X4.out.own, by rw [HBB.out]; exact X4.out.grew.below_ge (fun k hk => by cases hk; show bb ≤ wr.heap.size; omega) ((HB0.out : Below bb w W).trans ((BW.out.mono (by omega)).trans (AL.out.mono (by omega)))) (by simp; omega)⟩)
      clear  F HWW
      go_wp2
      go_ret2
      exact FF.out
    | succ g =>
      have hk : (k : Int) < 3 := by omega
      have hk1 : k < 3 := by omega
      obtain ⟨s, hs⟩ : ∃ s : ByteArray, [q.key, q.name, q.plan.name][k]? = some s := ⟨_, List.getElem?_eq_getElem (by simp; omega)⟩
      have hcs := CE.out k s hs
      have HT := Lib.hid (any_take_long _ k s hs hnl)
      clear hnl hs
      by_cases hl : (255 : Int) < (s.size : Int)
      · have F : Hid (RefEncPost w q (.returned (.tuple #[.slice none 0 0, .int .i64 5])) wr) := Lib.hid (refEnc_long (by
          rw [HLG.out]
          refine any_of_take _ (k + 1) ?_
          rw [HT.out]; simp [longB]; omega) ⟨rfl, by rw [HBB.out]; exact (HB0.out : Below bb w W).trans (BW.out.mono (by omega))⟩)
        go_wp2
        go_ret2
        exact F.out
      · go_wp2
        go_roundg g
        case measure => omega
        case rel => exact ⟨k + 1, by omega, by first | rfl | go_num, rfl, by rw [HT.out]; simp [longB]; omega⟩
set_option maxHeartbeats 3200000 in
set_option maxRecDepth 100000 in
theorem ref_enc_19 (q : ReqD) (w : World) (hk : q.kind = 19) : Calls Try.prog 28 #[.agg q.cells] w (RefEncPost w q) := by
  obtain ⟨i0, hi, hz0, hz1, hz2⟩ := info_parts infoStr
  have hkb : kindB 19 = true := by decide
  have HLG : Hid (q.long = ([q.key] : List ByteArray).any longB) := Lib.hid (by unfold ReqD.long ReqD.texts; rw [hk]; rfl)
  have HKC : Hid (q.cells[0]? = some (.int .i64 19)) := Lib.hid (by rw [← hk]; rfl)
  have HBY : Hid (q.bytes = [byteOf 19] ++ encText q.key ++ encInt q.n) := Lib.hid (by unfold ReqD.bytes ReqD.nums ReqD.texts ReqD.more; rw [hk]; simp [encInts, encTexts])
  clear hk
  go_enter Try.func28, Try.ntmps28
  go_upto_region 1 with (fail)
  have hB0 := below_alloc w (.cells q.cells 25)
  have hblk := heap_alloc_new w (.cells q.cells 25)
  have hs0 : (w.alloc (.cells q.cells 25)).heap.size = w.heap.size + 1 := by simp
  generalize w.alloc (.cells q.cells 25) = W at *
  have HC : Hid (∀ o u, q.cells[o]? = some u → W.cell? ⟨w.heap.size, o, none⟩ = some u) := Lib.hid (fun o u h => by rw [cell_of_row W _ _ _ _ _ hblk]; exact h)
  have HS0 := Lib.hid hs0
  have HB0 := Lib.hid hB0
  clear hblk hs0 hB0
  generalize hbb : w.heap.size = bb at *
  have HBB := Lib.hid hbb
  clear hbb
  have k0 : W.cell? ⟨bb, 0, none⟩ = some (.int .i64 19) := HC.out 0 _ HKC.out
  have k1 : W.cell? ⟨bb, 1, none⟩ = some (.string q.key) := HC.out 1 _ rfl
  have k3 : W.cell? ⟨bb, 3, none⟩ = some (.int .i64 q.n) := HC.out 3 _ rfl
  have hbl : bb < W.heap.size := by have := HS0.out; omega
  have hown : (W.alloc (.cells #[.string q.key] 9)).ownsRow W.heap.size 9 1 (.slice (some ⟨W.heap.size, 0, none⟩) 1 1) 1 [.string q.key] := World.ownsRow_lit W #[.string q.key] 1 (e := 9) (size := 1) (Nat.le_refl _) (by decide) rfl
  have OW : Hid _ := Lib.hid hown
  clear hown
  go_wp2_with (go_at_call 53; refine (ref_kind 19 _).mono ?_; rintro e w' ⟨rfl, rfl⟩)
  have hBa := below_alloc W (.cells #[.string q.key] 9)
  have hO := OW.out
  clear OW
  generalize W.alloc (.cells #[.string q.key] 9) = w4 at *
  have hg4 : W.heap.size < w4.heap.size := (hO.lt _ rfl).2
  generalize hgg : W.heap.size = gs at *
  obtain ⟨cs, hcs⟩ : ∃ cs, cs = 1 := ⟨1, rfl⟩
  have BW : Hid (Below gs W w4) := Lib.hid hBa
  have CE : Hid (∀ k s, [q.key][k]? = some s → w4.cell? ⟨gs, k, none⟩ = some (.string s)) := Lib.hid (fun k s h => by
    have := hO.cells (g := gs) rfl k (.string s) (by match k, h with | 0, h => (cases h; rfl) | _ + 1, h => simp at h)
    rwa [Addr.add_lit, Nat.zero_add] at this)
  clear hO hcs cs hBa
  have hsz4 : W.heap.size ≤ w4.heap.size := BW.out.size
  clear k0 k1 k3
  have CQ : Hid (∀ o u, q.cells[o]? = some u → w4.cell? ⟨bb, o, none⟩ = some u) := Lib.hid (fun o u h => (BW.out.cell (p := ⟨bb, o, none⟩) (by first | exact hbl | (show bb < _; omega))).trans (HC.out o u h))
  go_loopg [5] 1 (fun g s5 wr => ∃ k : Nat, k + g = 1 ∧ s5 = .int .i64 k ∧ wr = w4 ∧ ([q.key].take k).any longB = false)
  case atStart => exact ⟨0, by omega, rfl, rfl, rfl⟩
  case round =>
    obtain ⟨k, hkg, rfl, rfl, hnl⟩ := hrel
    cases gk with
    | zero =>
      have hk : ¬ ((k : Int) < 1) := by omega
      have HL : Hid ([q.key].any longB = false) := Lib.hid (by rw [List.take_of_length_le (by simp; omega)] at hnl; exact hnl)
      clear hnl
      have k0 : wr.cell? ⟨bb, 0, none⟩ = some (.int .i64 19) := CQ.out 0 _ HKC.out
      have k1 : wr.cell? ⟨bb, 1, none⟩ = some (.string q.key) := CQ.out 1 _ rfl
      have k3 : wr.cell? ⟨bb, 3, none⟩ = some (.int .i64 q.n) := CQ.out 3 _ rfl
      have HSZ : Hid (∀ s ∈ [q.key], s.size ≤ 255) := Lib.hid (fun s hs => by
        have := HL.out
        rw [List.any_eq_false] at this
        have h2 := this s hs
        simp [longB] at h2
        omega)
      have hown5 : Hid (OwnB (wr.alloc (.cells #[.int .u8 19] 5)) bb (.slice (some ⟨wr.heap.size, 0, none⟩) 1 1) [byteOf 19]) := Lib.hid (own_lit wr bb 1 _ [byteOf 19] rfl rfl (by omega) (by decide))
      have hal := below_alloc wr (.cells #[.int .u8 19] 5)
      have AL := Lib.hid hal
      clear hal
      have X0 : Hid (ReqW (wr.alloc (.cells #[.int .u8 19] 5)) (wr.alloc (.cells #[.int .u8 19] 5)) bb bb (.slice (some ⟨wr.heap.size, 0, none⟩) 1 1) (.slice (some ⟨wr.heap.size, 0, none⟩) 1 1) [byteOf 19] q 1) := Lib.hid
        ⟨hown5.out, Grew.refl _ _, by simp; omega, fun e => absurd (show wr.heap.size = bb by injection e) (by omega), by simp; omega, fun o u h => (AL.out.cell (p := ⟨bb, o, none⟩) (by show bb < _; omega)).trans (CQ.out o u h), by simp⟩
      clear hown5
      have hbw : bb < wr.heap.size := by omega
      have hne : wr.heap.size ≠ bb := by omega
      go_upto_region 20 with (go_at_call 54; refine (rqw_text q.key X0.out (HSZ.out _ (by simp)) (by decide)).mono ?_; rintro e w5 ⟨v5, rfl, X1'⟩; have X1 := Lib.hid X1'; have k0 : w5.cell? ⟨bb, 0, none⟩ = some (.int .i64 19) := X1'.cells 0 _ HKC.out; clear X1')
      have HWW : Hid (Below bb w w5) := Lib.hid (X1.out.grew.below_ge (fun k hk => by cases hk; show bb ≤ wr.heap.size; omega) (((HB0.out : Below bb w W)).trans ((BW.out.mono (by omega)).trans (AL.out.mono (by omega)))) (by simp; omega))
      have k3 : w5.cell? ⟨bb, 3, none⟩ = some (.int .i64 q.n) := X1.out.cells 3 _ rfl
      go_wp2_with (go_at_call 55; refine (rqw_int q.n X1.out (by decide)).mono ?_; rintro e w6 ⟨v6, rfl, X2'⟩; have X2 := Lib.hid X2'; clear X2')
      have F : Hid (∀ (v : Value) (w' : World), OwnB w' bb v q.bytes → Grew w5 w' v5 v → RefEncPost w q (.returned (.tuple #[v, .int .i64 0])) w') := Lib.hid (fun v w' ho hg => refEnc_ok (by rw [HLG.out]; exact HL.out) ⟨v, rfl, by rw [HBB.out]; exact ho, by rw [HBB.out]; exact hg.below_ge (fun k hk => (X1.out.own.lt k hk).1) HWW.out (by have := HWW.out.size; have := HS0.out; have := HBB.out; have := X1.out.grew.size; have : wr.heap.size ≤ w5.heap.size := by { have h1 := X1.out.grew.size; have h2 := AL.out.size; omega }; omega)⟩)
      have FF := Lib.hid (refEnc_ok (w := w) (q := q) (e := .returned (.tuple #[v6, .int .i64 0])) (w' := w6) (by rw [HLG.out]; exact HL.out) ⟨v6, rfl, by rw [HBB.out, HBY.out]; exact X2.out.own, by rw [HBB.out]; exact X2.out.grew.below_ge (fun k hk => by cases hk; show bb ≤ wr.heap.size; omega) ((HB0.out : Below bb w W).trans ((BW.out.mono (by omega)).trans (AL.out.mono (by omega)))) (by simp; omega)⟩)
      clear k0 F HWW
      go_wp2
      go_ret2
      exact FF.out
    | succ g =>
      have hk : (k : Int) < 1 := by omega
      have hk1 : k < 1 := by omega
      obtain ⟨s, hs⟩ : ∃ s : ByteArray, [q.key][k]? = some s := ⟨_, List.getElem?_eq_getElem (by simp; omega)⟩
      have hcs := CE.out k s hs
      have HT := Lib.hid (any_take_long _ k s hs hnl)
      clear hnl hs
      by_cases hl : (255 : Int) < (s.size : Int)
      · have F : Hid (RefEncPost w q (.returned (.tuple #[.slice none 0 0, .int .i64 5])) wr) := Lib.hid (refEnc_long (by
          rw [HLG.out]
          refine any_of_take _ (k + 1) ?_
          rw [HT.out]; simp [longB]; omega) ⟨rfl, by rw [HBB.out]; exact (HB0.out : Below bb w W).trans (BW.out.mono (by omega))⟩)
        go_wp2
        go_ret2
        exact F.out
      · go_wp2
        go_roundg g
        case measure => omega
        case rel => exact ⟨k + 1, by omega, by first | rfl | go_num, rfl, by rw [HT.out]; simp [longB]; omega⟩
set_option maxHeartbeats 3200000 in
set_option maxRecDepth 100000 in
theorem ref_enc_20 (q : ReqD) (w : World) (hk : q.kind = 20) : Calls Try.prog 28 #[.agg q.cells] w (RefEncPost w q) := by
  obtain ⟨i0, hi, hz0, hz1, hz2⟩ := info_parts infoStr
  have hkb : kindB 20 = true := by decide
  have HLG : Hid (q.long = ([q.key, q.name] : List ByteArray).any longB) := Lib.hid (by unfold ReqD.long ReqD.texts; rw [hk]; rfl)
  have HKC : Hid (q.cells[0]? = some (.int .i64 20)) := Lib.hid (by rw [← hk]; rfl)
  have HBY : Hid (q.bytes = [byteOf 20] ++ encText q.key ++ encText q.name ++ encInt q.n) := Lib.hid (by unfold ReqD.bytes ReqD.nums ReqD.texts ReqD.more; rw [hk]; simp [encInts, encTexts])
  clear hk
  go_enter Try.func28, Try.ntmps28
  go_upto_region 1 with (fail)
  have hB0 := below_alloc w (.cells q.cells 25)
  have hblk := heap_alloc_new w (.cells q.cells 25)
  have hs0 : (w.alloc (.cells q.cells 25)).heap.size = w.heap.size + 1 := by simp
  generalize w.alloc (.cells q.cells 25) = W at *
  have HC : Hid (∀ o u, q.cells[o]? = some u → W.cell? ⟨w.heap.size, o, none⟩ = some u) := Lib.hid (fun o u h => by rw [cell_of_row W _ _ _ _ _ hblk]; exact h)
  have HS0 := Lib.hid hs0
  have HB0 := Lib.hid hB0
  clear hblk hs0 hB0
  generalize hbb : w.heap.size = bb at *
  have HBB := Lib.hid hbb
  clear hbb
  have k0 : W.cell? ⟨bb, 0, none⟩ = some (.int .i64 20) := HC.out 0 _ HKC.out
  have k1 : W.cell? ⟨bb, 1, none⟩ = some (.string q.key) := HC.out 1 _ rfl
  have k3 : W.cell? ⟨bb, 3, none⟩ = some (.int .i64 q.n) := HC.out 3 _ rfl
  have k6 : W.cell? ⟨bb, 6, none⟩ = some (.string q.name) := HC.out 6 _ rfl
  have hbl : bb < W.heap.size := by have := HS0.out; omega
  have hown : (W.alloc (.cells #[.string q.key] 9)).ownsRow W.heap.size 9 1 (.slice (some ⟨W.heap.size, 0, none⟩) 1 1) 1 [.string q.key] := World.ownsRow_lit W #[.string q.key] 1 (e := 9) (size := 1) (Nat.le_refl _) (by decide) rfl
  have OW : Hid _ := Lib.hid hown
  clear hown
  have hWs : Hid ((W.alloc (.cells #[.string q.key] 9)).heap.size = W.heap.size + 1) := Lib.hid (by simp)
  go_wp2_with (first
    | (go_at_call 53; refine (ref_kind 20 _).mono ?_; rintro e w' ⟨rfl, rfl⟩)
    | (at_builtin; refine wpList_append_lies _ rfl (.tmp 48) (.tmp 51) 114 rfl W.heap.size 9 i0 (.string ByteArray.empty) 1 16 Try.underlying114 hi hz0 hz1 hz2 rfl (by decide) (.slice (some ⟨W.heap.size, 0, none⟩) 1 1) 1 [.string q.key] rfl (OW.out.alloc _) ⟨W.heap.size + 1, 0, none⟩ 1 1 [.string q.name] rfl rfl ?c1 (strs_oneCell [q.name]) (by decide) (by decide) (by decide) (by simp; omega) (W.heap.size + 2) (by simp) ?_))
  case c1 =>
    intro j u hj
    rw [Addr.add_lit, Nat.zero_add, World.cell?_alloc_at _ _ _ _ hWs.out.symm]
    simpa using hj
  intro gs cap w4 hO hgrow hg hg4
  have hgs : W.heap.size ≤ gs := by
    rcases hg with h | h
    · exact Nat.le_of_eq (show W.heap.size = gs by injection h)
    · omega
  have hBa : Below W.heap.size W w4 := ((below_alloc W (.cells #[.string q.key] 9)).trans ((below_alloc _ _).mono (by simp))).grown hgrow (by simp; omega) (fun k hk => by cases hk; exact Nat.le_refl _)
  have BW := Lib.hid hBa
  have CE : Hid (∀ k s, [q.key, q.name][k]? = some s → w4.cell? ⟨gs, k, none⟩ = some (.string s)) := Lib.hid (fun k s h => by
    have := hO.cells (g := gs) rfl k (.string s) (by show ([q.key, q.name].map Value.string)[k]? = _; rw [List.getElem?_map, h]; rfl)
    rwa [Addr.add_lit, Nat.zero_add] at this)
  clear hO hgrow hg hBa OW hWs
  go_wp2
  have hsz4 : W.heap.size ≤ w4.heap.size := BW.out.size
  clear k0 k1 k3 k6
  have CQ : Hid (∀ o u, q.cells[o]? = some u → w4.cell? ⟨bb, o, none⟩ = some u) := Lib.hid (fun o u h => (BW.out.cell (p := ⟨bb, o, none⟩) (by first | exact hbl | (show bb < _; omega))).trans (HC.out o u h))
  go_loopg [5] 2 (fun g s5 wr => ∃ k : Nat, k + g = 2 ∧ s5 = .int .i64 k ∧ wr = w4 ∧ ([q.key, q.name].take k).any longB = false)
  case atStart => exact ⟨0, by omega, rfl, rfl, rfl⟩
  case round =>
    obtain ⟨k, hkg, rfl, rfl, hnl⟩ := hrel
    cases gk with
    | zero =>
      have hk : ¬ ((k : Int) < 2) := by omega
      have HL : Hid ([q.key, q.name].any longB = false) := Lib.hid (by rw [List.take_of_length_le (by simp; omega)] at hnl; exact hnl)
      clear hnl
      have k0 : wr.cell? ⟨bb, 0, none⟩ = some (.int .i64 20) := CQ.out 0 _ HKC.out
      have k1 : wr.cell? ⟨bb, 1, none⟩ = some (.string q.key) := CQ.out 1 _ rfl
      have k3 : wr.cell? ⟨bb, 3, none⟩ = some (.int .i64 q.n) := CQ.out 3 _ rfl
      have k6 : wr.cell? ⟨bb, 6, none⟩ = some (.string q.name) := CQ.out 6 _ rfl
      have HSZ : Hid (∀ s ∈ [q.key, q.name], s.size ≤ 255) := Lib.hid (fun s hs => by
        have := HL.out
        rw [List.any_eq_false] at this
        have h2 := this s hs
        simp [longB] at h2
        omega)
      have hown5 : Hid (OwnB (wr.alloc (.cells #[.int .u8 20] 5)) bb (.slice (some ⟨wr.heap.size, 0, none⟩) 1 1) [byteOf 20]) := Lib.hid (own_lit wr bb 1 _ [byteOf 20] rfl rfl (by omega) (by decide))
      have hal := below_alloc wr (.cells #[.int .u8 20] 5)
      have AL := Lib.hid hal
      clear hal
      have X0 : Hid (ReqW (wr.alloc (.cells #[.int .u8 20] 5)) (wr.alloc (.cells #[.int .u8 20] 5)) bb bb (.slice (some ⟨wr.heap.size, 0, none⟩) 1 1) (.slice (some ⟨wr.heap.size, 0, none⟩) 1 1) [byteOf 20] q 1) := Lib.hid
        ⟨hown5.out, Grew.refl _ _, by simp; omega, fun e => absurd (show wr.heap.size = bb by injection e) (by omega), by simp; omega, fun o u h => (AL.out.cell (p := ⟨bb, o, none⟩) (by show bb < _; omega)).trans (CQ.out o u h), by simp⟩
      clear hown5
      have hbw : bb < wr.heap.size := by omega
      have hne : wr.heap.size ≠ bb := by omega
      go_upto_region 20 with (go_at_call 54; refine (rqw_text q.key X0.out (HSZ.out _ (by simp)) (by decide)).mono ?_; rintro e w5 ⟨v5, rfl, X1'⟩; have X1 := Lib.hid X1'; have k0 : w5.cell? ⟨bb, 0, none⟩ = some (.int .i64 20) := X1'.cells 0 _ HKC.out; clear X1')
      have HWW : Hid (Below bb w w5) := Lib.hid (X1.out.grew.below_ge (fun k hk => by cases hk; show bb ≤ wr.heap.size; omega) (((HB0.out : Below bb w W)).trans ((BW.out.mono (by omega)).trans (AL.out.mono (by omega)))) (by simp; omega))
      have k3 : w5.cell? ⟨bb, 3, none⟩ = some (.int .i64 q.n) := X1.out.cells 3 _ rfl
      have k6 : w5.cell? ⟨bb, 6, none⟩ = some (.string q.name) := X1.out.cells 6 _ rfl
      go_upto_region 36 with (fail)
      clear k0
      go_region_held3 (fun w' => w'.cell? ⟨bb, 3, none⟩ = some (.int .i64 q.n) ∧ w'.cell? ⟨bb, 6, none⟩ = some (.string q.name)) (first | exact ⟨q3, q6⟩ | exact ⟨k3, k6⟩ | go_keep)
        (first
          | (go_at_call_of 54 (Value.string q.name)
             refine (rqw_text q.name X1.out.drew (HSZ.out _ (by simp)) (by decide)).mono ?_
             rintro e w6 ⟨v6, rfl, s6⟩
             have X2 := Lib.hid s6
             have q3 : w6.cell? ⟨bb, 3, none⟩ = some (.int .i64 q.n) := s6.cells 3 _ rfl
             have q6 : w6.cell? ⟨bb, 6, none⟩ = some (.string q.name) := s6.cells 6 _ rfl
             clear s6)
          | (go_at_call_of 55 (Value.int .i64 q.n)
             refine (rqw_int q.n X2.out (by decide)).mono ?_
             rintro e w7 ⟨v7, rfl, s7⟩
             have X3 := Lib.hid s7
             have q3 : w7.cell? ⟨bb, 3, none⟩ = some (.int .i64 q.n) := s7.cells 3 _ rfl
             have q6 : w7.cell? ⟨bb, 6, none⟩ = some (.string q.name) := s7.cells 6 _ rfl
             clear s7))
      clear q3 k3 q6 k6
      have F : Hid (∀ (v : Value) (w' : World), OwnB w' bb v q.bytes → Grew w5 w' v5 v → RefEncPost w q (.returned (.tuple #[v, .int .i64 0])) w') := Lib.hid (fun v w' ho hg => refEnc_ok (by rw [HLG.out]; exact HL.out) ⟨v, rfl, by rw [HBB.out]; exact ho, by rw [HBB.out]; exact hg.below_ge (fun k hk => (X1.out.own.lt k hk).1) HWW.out (by have := HWW.out.size; have := HS0.out; have := HBB.out; have := X1.out.grew.size; have : wr.heap.size ≤ w5.heap.size := by { have h1 := X1.out.grew.size; have h2 := AL.out.size; omega }; omega)⟩)
      have FF := Lib.hid (refEnc_ok (w := w) (q := q) (e := .returned (.tuple #[v7, .int .i64 0])) (w' := w7) (by rw [HLG.out]; exact HL.out) ⟨v7, rfl, by rw [HBB.out, HBY.out]; exact X3.out.own, by rw [HBB.out]; exact X3.out.grew.below_ge (fun k hk => by cases hk; show bb ≤ wr.heap.size; omega) ((HB0.out : Below bb w W).trans ((BW.out.mono (by omega)).trans (AL.out.mono (by omega)))) (by simp; omega)⟩)
      clear  F HWW
      go_wp2
      go_ret2
      exact FF.out
    | succ g =>
      have hk : (k : Int) < 2 := by omega
      have hk1 : k < 2 := by omega
      obtain ⟨s, hs⟩ : ∃ s : ByteArray, [q.key, q.name][k]? = some s := ⟨_, List.getElem?_eq_getElem (by simp; omega)⟩
      have hcs := CE.out k s hs
      have HT := Lib.hid (any_take_long _ k s hs hnl)
      clear hnl hs
      by_cases hl : (255 : Int) < (s.size : Int)
      · have F : Hid (RefEncPost w q (.returned (.tuple #[.slice none 0 0, .int .i64 5])) wr) := Lib.hid (refEnc_long (by
          rw [HLG.out]
          refine any_of_take _ (k + 1) ?_
          rw [HT.out]; simp [longB]; omega) ⟨rfl, by rw [HBB.out]; exact (HB0.out : Below bb w W).trans (BW.out.mono (by omega))⟩)
        go_wp2
        go_ret2
        exact F.out
      · go_wp2
        go_roundg g
        case measure => omega
        case rel => exact ⟨k + 1, by omega, by first | rfl | go_num, rfl, by rw [HT.out]; simp [longB]; omega⟩
/-- EncodeRequest of the document, at every request. -/
theorem ref_enc_req (q : ReqD) (w : World) (hk : kindB q.kind = true) : Calls Try.prog 28 #[.agg q.cells] w (RefEncPost w q) := by
  have h : q.kind = 1 ∨ q.kind = 2 ∨ q.kind = 3 ∨ q.kind = 4 ∨ q.kind = 5 ∨ q.kind = 16 ∨ q.kind = 17 ∨ q.kind = 18 ∨ q.kind = 19 ∨ q.kind = 20 := by
    simp [kindB] at hk
    omega
  rcases h with h | h | h | h | h | h | h | h | h | h
  · exact ref_enc_1 q w h
  · exact ref_enc_2 q w h
  · exact ref_enc_3 q w h
  · exact ref_enc_4 q w h
  · exact ref_enc_5 q w h
  · exact ref_enc_16 q w h
  · exact ref_enc_17 q w h
  · exact ref_enc_18 q w h
  · exact ref_enc_19 q w h
  · exact ref_enc_20 q w h
end Go.Proofs.Ytehkgcmdndehaaa
