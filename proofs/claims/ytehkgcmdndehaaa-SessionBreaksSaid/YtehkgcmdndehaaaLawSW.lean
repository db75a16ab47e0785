/-
  Law SessionWaits, walked.
-/
import Derived.Test.YtehkgcmdndehaaaSesK
import Derived.Test.YtehkgcmdndehaaaRefEA
namespace Go.Proofs.Ytehkgcmdndehaaa
set_option linter.unusedSimpArgs false
set_option linter.unusedVariables false
open Go.RowKit
attribute [local irreducible] feedAll feedL parseReqC itemCells frameN feedSt

/-- A session that was fed the first bytes of all. -/
structure SesIs (w : World) (b : Nat) (v : Value) (bs : List UInt8) (brk : Bool) : Prop where
  at' : ∃ d, SesAt w b d v bs brk ∧ (d = 1 ∨ (d = 0 ∧ v = .slice none 0 0 ∧ bs = [] ∧ brk = false))
theorem SesIs.lt {w : World} {b : Nat} {v : Value} {bs : List UInt8} {brk : Bool} (h : SesIs w b v bs brk) : b < w.heap.size := by obtain ⟨d, h, _⟩ := h.at'; exact h.lt
theorem SesIs.own {w : World} {b : Nat} {v : Value} {bs : List UInt8} {brk : Bool} (h : SesIs w b v bs brk) : OwnB w (b + 1) v bs := by obtain ⟨d, h, _⟩ := h.at'; exact h.own
theorem SesIs.on {w w' : World} {b : Nat} {v : Value} {bs : List UInt8} {brk : Bool} (h : SesIs w b v bs brk) (hB : Below w.heap.size w w') : SesIs w' b v bs brk := by
  obtain ⟨d, h, hd⟩ := h.at'
  exact ⟨d, h.on hB, hd⟩
theorem SesIs.drew {w : World} {b : Nat} {v : Value} {bs : List UInt8} {brk : Bool} (h : SesIs w b v bs brk) : SesIs w.drew b v bs brk := by
  obtain ⟨d, h, hd⟩ := h.at'
  exact ⟨d, h.drew, hd⟩
theorem SesIs.new {w w' : World} {e : Ending} (h : NewPost w e w') : SesIs w' w.heap.size (.slice none 0 0) [] false := ⟨0, h.2.1, .inr ⟨rfl, rfl, rfl, rfl⟩⟩
/-- What Feed leaves, and answers. -/
def FeedIs (w : World) (b : Nat) (v : Value) (R : List (List Value) × List UInt8 × Bool) (e : Ending) (w' : World) : Prop :=
  ∃ (v' : Value) (a : Option Addr) (c : Nat), e = .returned (.slice a R.1.length c) ∧ SesIs w' b v' R.2.1 R.2.2 ∧ Fed w w' b v v' ∧ Below b w w' ∧ w'.ownsRow w.heap.size 56 19 (.slice a R.1.length c) R.1.length (itemsV R.1)
theorem sis_feed {w : World} {b : Nat} {v : Value} {bs : List UInt8} {brk : Bool} (h : SesIs w b v bs brk) (vb : Value) (zs : List UInt8) (hz : Reads w vb zs) (h1 : ∀ k, vb.ownBlock = some k → k ≠ b ∧ v.ownBlock ≠ some k) (hl : bs.length + zs.length ≤ 1000000) :
    Calls Try.prog 24 #[.pointer (some ⟨b, 0, none⟩), vb] w (FeedIs w b v (feedSt bs brk zs)) := by
  obtain ⟨d, h, hd⟩ := h.at'
  refine (ses_feed2 b d v bs brk vb zs w h hd hz ⟨fun e => (h1 b e).1 rfl, fun k hk => (h1 k hk).2⟩ (by rw [List.length_append]; exact hl)).mono ?_
  rintro e w' ⟨v', o, rfl, hs, hf, ho⟩
  obtain ⟨a, c, rfl⟩ := own_len ho
  exact ⟨v', a, c, rfl, ⟨1, hs, .inl rfl⟩, hf, hf.below h, ho⟩
theorem sis_broken {w : World} {b : Nat} {v : Value} {bs : List UInt8} {brk : Bool} (h : SesIs w b v bs brk) : Calls Try.prog 25 #[.pointer (some ⟨b, 0, none⟩)] w fun e w' => e = .returned (.bool brk) ∧ w = w' := by
  obtain ⟨d, h, _⟩ := h.at'
  exact ses_broken h
theorem sis_waits {w : World} {b : Nat} {v : Value} {bs : List UInt8} {brk : Bool} (h : SesIs w b v bs brk) : Calls Try.prog 26 #[.pointer (some ⟨b, 0, none⟩)] w fun e w' => e = .returned (.int .i64 bs.length) ∧ w = w' := by
  obtain ⟨d, h, _⟩ := h.at'
  exact ses_waits h
/-- One byte of a row. -/
theorem reads_sub1 {w : World} {g off n c k : Nat} {zs : List UInt8} {x : UInt8} (h : ∀ (i : Nat) (y : UInt8), zs[i]? = some y → w.cell? ⟨g, off + i, none⟩ = some (.int .u8 (y.toNat : Int))) (hg : g < w.heap.size) (hk : zs[k]? = some x) (hc : 1 ≤ c) :
    Reads w (.slice (some ⟨g, off + k, none⟩) 1 c) [x] := by
  refine .inr ⟨g, off + k, c, rfl, hc, hg, fun i y hi => ?_⟩
  match i, hi with
  | 0, hi =>
    simp at hi
    subst hi
    exact h k x hk
  | _ + 1, hi => simp at hi

/-- What waits behind k bytes of a frame. -/
def waitSt (zs : List UInt8) (k : Nat) : List UInt8 := if k < 2 + zs.length then (frameB zs).take k else []
theorem wait_len (zs : List UInt8) (k : Nat) (h : k < 2 + zs.length) : (waitSt zs k).length = k := by
  unfold waitSt; rw [if_pos h, List.length_take, frameB_length]; omega
theorem wait_le (zs : List UInt8) (k : Nat) : (waitSt zs k).length ≤ 2 + zs.length := by
  unfold waitSt
  split
  · rw [List.length_take, frameB_length]; omega
  · simp
theorem wait_step (zs : List UInt8) (k : Nat) (x : UInt8) (h0 : 1 ≤ zs.length) (h1 : zs.length ≤ 512) (h : k + 1 < 2 + zs.length) (hx : (frameB zs)[k]? = some x) : feedSt (waitSt zs k) false [x] = ([], waitSt zs (k + 1), false) := by
  have e : waitSt zs k ++ [x] = (frameB zs).take (k + 1) := by
    unfold waitSt
    obtain ⟨hk, hx⟩ := List.getElem?_eq_some_iff.1 hx
    rw [if_pos (by omega), List.take_succ_eq_append_getElem hk, hx]
  rw [feedSt_ok, e, feed_part zs (k + 1) h0 h1 h, waitSt, if_pos h]
theorem wait_last (zs : List UInt8) (k : Nat) (x : UInt8) (h0 : 1 ≤ zs.length) (h1 : zs.length ≤ 512) (h : k + 1 = 2 + zs.length) (hx : (frameB zs)[k]? = some x) : feedSt (waitSt zs k) false [x] = ([itemCells (parseReqC zs)], waitSt zs (k + 1), false) := by
  have e : waitSt zs k ++ [x] = frameB zs ++ [] := by
    unfold waitSt
    obtain ⟨hk, hx⟩ := List.getElem?_eq_some_iff.1 hx
    rw [if_pos (by omega), List.append_nil, ← hx, ← List.take_succ_eq_append_getElem hk, List.take_of_length_le (by rw [frameB_length]; omega)]
  rw [feedSt_ok, e, feed_frame zs [] h0 h1, feed_nil, waitSt, if_neg (by omega)]
theorem wait_done (zs : List UInt8) : waitSt zs (2 + zs.length) = [] := by unfold waitSt; rw [if_neg (by omega)]
theorem feedSt_nil : feedSt [] false [] = ([], [], false) := by rw [feedSt_ok]; exact feed_nil
theorem sis_waits_n {w : World} {b : Nat} {v : Value} {bs : List UInt8} {brk : Bool} (h : SesIs w b v bs brk) (n : Int) (hn : (bs.length : Int) = n) : Calls Try.prog 26 #[.pointer (some ⟨b, 0, none⟩)] w fun e w' => e = .returned (.int .i64 n) ∧ w = w' := by
  subst hn
  exact sis_waits h
attribute [local irreducible] waitSt

set_option maxHeartbeats 3200000 in
set_option maxRecDepth 100000 in
theorem sessionWaits_walk (key : ByteArray) (hkey : key.size ≤ 140737488351232) (w : World) : Calls Try.prog 8 #[.string key] w (TrueBelow w) := by
  by_cases hs : 255 < key.size
  · have hs' : (255 : Int) < (key.size : Int) := by omega
    go_enter Try.func8, Try.ntmps8
    go_wp2_with (go_at_call 21; refine (l19_known _).mono ?_; rintro e w1 ⟨rfl, hB1⟩)
    go_ret
    exact ⟨rfl, hB1⟩
  have hs' : ¬ (255 : Int) < (key.size : Int) := by omega
  have HK : Hid (key.size ≤ 255) := Lib.hid (by omega)
  have HZL : Hid (((showQ key).bytes).length = key.size + 2) := Lib.hid (by rw [showQ_bytes, List.length_cons, encText_length])
  have HPS : Hid (parseReqC (showQ key).bytes = ((showQ key).cells.toList, 0)) := Lib.hid (by rw [showQ_bytes]; exact parse_show key (by omega))
  clear hs
  go_enter Try.func8, Try.ntmps8
  go_upto_region 5 with (go_at_call 21; refine (l19_known _).mono ?_; rintro e w1 ⟨rfl, hB1⟩; have B1 := Lib.hid hB1; clear hB1)
  go_upto_region 6 with (first
    | (refine wpList_build_at _ rfl 25 _ rfl (showQ key).cells (by kernel_rfl) ?_)
    | (go_at_call 28; refine (ref_enc_req (showQ key) _ rfl).mono ?_; rintro e w2 hp; unfold RefEncPost at hp; rw [if_neg (by rw [showQ_long key HK.out]; decide)] at hp; obtain ⟨v2, rfl, ho, hB⟩ := hp; have X2 := Lib.hid (And.intro ho hB); clear ho hB))
  have R2 : Hid (Reads w2 v2 (showQ key).bytes) := Lib.hid (Reads.of_own X2.out.1)
  go_upto_region 9 with (go_at_call 19; refine (ref_frame_ok v2 (showQ key).bytes w2 R2.out (by rw [HZL.out]; omega) (by rw [HZL.out]; have := HK.out; omega)).mono ?_; rintro e w3 ⟨v3, rfl, ho, hB⟩; have X3 := Lib.hid (And.intro ho hB); clear ho hB)
  obtain ⟨zs, hzs⟩ : ∃ zs, zs = (showQ key).bytes := ⟨_, rfl⟩
  rw [← hzs] at HZL HPS X3
  have HZS := Lib.hid hzs
  clear hzs
  have hL : (frameB zs).length = key.size + 4 := by rw [frameB_length, HZL.out]; omega
  obtain ⟨gf, cf, hv3, hg1, hg2⟩ := X3.out.1.form (by omega)
  subst hv3
  have hlc : key.size + 4 ≤ cf := by
    rcases X3.out.1.2 with ⟨h, _⟩ | ⟨g', cap', cur, h, _, _, hn, _⟩
    · cases h
    · cases h; omega
  have C3 : Hid (∀ (i : Nat) (y : UInt8), (frameB zs)[i]? = some y → w3.cell? ⟨gf, 0 + i, none⟩ = some (.int .u8 (y.toNat : Int))) := Lib.hid (fun i y hi => by
    have := X3.out.1.cells (g := gf) rfl i (.int .u8 (y.toNat : Int)) (by rw [bcells, List.getElem?_map, hi]; rfl)
    rwa [Addr.add_lit] at this)
  rw [hL]
  have HL := Lib.hid hL
  clear hL
  go_upto_region 10 with (go_at_call 23; refine (ses_new _).mono ?_; rintro e w4 hN; have X4 := Lib.hid (And.intro (SesIs.new hN) hN.2.2); obtain ⟨rfl, _⟩ := hN)
  generalize hbb : w3.heap.size = b at *
  have HBB := Lib.hid hbb
  clear hbb
  have BW : Hid (Below w.heap.size w w4) := Lib.hid (((B1.out.trans (X2.out.2.mono B1.out.size)).trans (X3.out.2.mono (Nat.le_trans B1.out.size X2.out.2.size))).trans (X4.out.2.mono (by rw [← HBB.out]; exact Nat.le_trans B1.out.size (Nat.le_trans X2.out.2.size X3.out.2.size))))
  have hwb : w.heap.size ≤ b := by rw [← HBB.out]; exact Nat.le_trans B1.out.size (Nat.le_trans X2.out.2.size X3.out.2.size)
  have HWB := Lib.hid hwb
  clear hwb
  have HN : Hid (key.size + 4 = 2 + zs.length ∧ 1 ≤ zs.length ∧ zs.length ≤ 512) := Lib.hid (by have := HZL.out; have := HK.out; omega)
  have HHG : Hid (gf < b) := Lib.hid hg2
  have hKS : key.size + 4 ≤ 300 := by have := HK.out; omega
  generalize hnn : key.size + 4 = n at *
  clear hnn hs' hkey hg1 hg2
  go_wp2
  go_loopg [8, 9] n (fun g s8 s9 wr => ∃ (k : Nat) (v : Value), k + g = n ∧ s8 = .int .i64 k ∧ SesIs wr b v (waitSt zs k) false ∧ Below b w4 wr)
  case atStart => exact ⟨0, _, by omega, rfl, by have h := X4.out.1; rw [show waitSt zs 0 = [] by unfold waitSt; rw [if_pos (by omega)]; rfl]; exact h, Below.refl _ _⟩
  case round =>
    obtain ⟨k, v, hkg, rfl, hst, hbw⟩ := hrel
    have XR := Lib.hid (And.intro hst hbw)
    clear hst hbw
    cases gk with
    | zero =>
      have hk : ¬ ((k : Int) < (n : Int)) := by omega
      have XZ : Hid (SesIs wr b v [] false) := Lib.hid (by have := XR.out.1; rwa [show k = 2 + zs.length by have := HN.out.1; omega, wait_done] at this)
      go_wp2_with (first
        | (go_at_call 25; refine (sis_broken XZ.out).mono ?_; rintro e w' ⟨rfl, rfl⟩)
        | (go_at_call 24; refine (sis_feed XZ.out (.slice none 0 0) [] (Reads.nil _) (fun k hk => by cases hk) (by simp)).mono ?_; rintro e w6 ⟨v6, a6, c6, rfl, hs6, hf6, hB6, ho6⟩; have F : Hid (Below w.heap.size w w6) := Lib.hid (BW.out.trans ((XR.out.2.mono HWB.out).trans (hB6.mono HWB.out))); rw [feedSt_nil] at *; clear hs6 hf6 hB6 ho6))
      go_ret
      exact ⟨ret_bool (by first | rfl | simp), F.out⟩
    | succ g =>
      have hk : (k : Int) < (n : Int) := by omega
      obtain ⟨x, hx⟩ : ∃ x, (frameB zs)[k]? = some x := ⟨_, List.getElem?_eq_getElem (by rw [frameB_length]; have := HN.out.1; omega)⟩
      have HX := Lib.hid hx
      clear hx
      have hcf1 : ¬ cf = k := by omega
      have hcf2 : k ≤ cf := by omega
      have hcf3 : k + 1 ≤ cf := by omega
      have RX : Hid (Reads wr (.slice (some ⟨gf, k, none⟩) 1 (cf - k)) [x]) := Lib.hid (by
        have := reads_sub1 (w := wr) (g := gf) (off := 0) (n := n) (c := cf - k) (k := k) (x := x) (zs := frameB zs) (fun i y hi => (XR.out.2.cell (p := ⟨gf, 0 + i, none⟩) HHG.out).trans ((X4.out.2.cell (p := ⟨gf, 0 + i, none⟩) (by exact HHG.out)).trans (C3.out i y hi))) (by have := XR.out.1.lt; have := HHG.out; omega) HX.out (by omega)
        rwa [Nat.zero_add] at this)
      have NE : Hid (∀ j, (Value.slice (some ⟨gf, k, none⟩) 1 (cf - k)).ownBlock = some j → j ≠ b ∧ v.ownBlock ≠ some j) := Lib.hid (fun j hj => by
        have h0 : gf = j := Option.some.inj hj
        subst h0
        exact ⟨Nat.ne_of_lt HHG.out, fun e => by have := (XR.out.1.own.lt _ e).1; have := HHG.out; omega⟩)
      by_cases hk1 : k + 1 < n
      · have hk1' : (k : Int) + 1 < (n : Int) := by omega
        have hk2 : ((k : Int) + 1 == (n : Int)) = false := by rw [beq_eq_false_iff_ne]; omega
        have HK1 : Hid (k + 1 < 2 + zs.length) := Lib.hid (by have := HN.out.1; omega)
        clear hk1
        go_upto_region 14 with (go_at_call 24; refine (sis_feed XR.out.1 _ [x] RX.out NE.out (by have := wait_le zs k; have := HN.out.2.2; simp; omega)).mono ?_; rintro e w5 ⟨v5, a5, c5, rfl, hs5, hf5, hB5, ho5⟩; rw [wait_step zs k x HN.out.2.1 HN.out.2.2 HK1.out HX.out] at *; have X5 := Lib.hid (And.intro hs5 hB5); clear hs5 hf5 hB5 ho5)
        have HWL : Hid (((waitSt zs (k + 1)).length : Int) = (k : Int) + 1) := Lib.hid (by rw [wait_len zs (k + 1) HK1.out]; rfl)
        go_wp2_with (go_at_call 26; refine (sis_waits_n X5.out.1 ((k : Int) + 1) HWL.out).mono ?_; rintro e w' ⟨rfl, rfl⟩)
        go_roundg g
        case measure => omega
        case rel => exact ⟨k + 1, v5, by omega, by first | rfl | go_num, X5.out.1, XR.out.2.trans X5.out.2⟩
      · have hk1' : ¬ ((k : Int) + 1 < (n : Int)) := by omega
        have hk2 : ((k : Int) + 1 == (n : Int)) = true := by rw [beq_iff_eq]; omega
        have HK1 : Hid (k + 1 = 2 + zs.length) := Lib.hid (by have := HN.out.1; omega)
        clear hk1
        go_upto_region 14 with (go_at_call 24; refine (sis_feed XR.out.1 _ [x] RX.out NE.out (by have := wait_le zs k; have := HN.out.2.2; simp; omega)).mono ?_; rintro e w5 ⟨v5, a5, c5, rfl, hs5, hf5, hB5, ho5⟩; have h19 := feedSt_19 (waitSt zs k) false [x]; rw [wait_last zs k x HN.out.2.1 HN.out.2.2 HK1.out HX.out] at *; have X5 := Lib.hid (And.intro hs5 (And.intro hB5 (And.intro ho5 h19))); clear hs5 hf5 hB5 ho5 h19)
        obtain ⟨gi, ci, hsl, _, _, hci, hcells⟩ := items_cells X5.out.2.2.1 X5.out.2.2.2 Nat.one_pos
        obtain ⟨rfl, rfl⟩ : a5 = some ⟨gi, 0, none⟩ ∧ c5 = ci := by injection hsl with h1 h2 h3; exact ⟨h1, h3⟩
        have k18 : w5.cell? ⟨gi, 18, none⟩ = some (.int .i64 0) := hcells 0 18 _ _ rfl (by rw [itemCells_eq, HPS.out]; rfl)
        have k1 : w5.cell? ⟨gi, 1, none⟩ = some (.string key) := hcells 0 1 _ _ rfl (by rw [itemCells_eq, HPS.out]; rfl)
        have hc1 : 1 ≤ c5 := hci
        have HWL : Hid (((waitSt zs (k + 1)).length : Int) = 0) := Lib.hid (by rw [HK1.out, wait_done]; rfl)
        clear hsl hcells hci
        go_wp2_with (go_at_call 26; refine (sis_waits_n X5.out.1 0 HWL.out).mono ?_; rintro e w' ⟨rfl, rfl⟩)
        go_roundg g
        case measure => omega
        case rel => exact ⟨k + 1, v5, by omega, by first | rfl | go_num, X5.out.1, XR.out.2.trans X5.out.2.1⟩
end Go.Proofs.Ytehkgcmdndehaaa
