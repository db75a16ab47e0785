/-
  Law SessionBreaks, walked.
-/
import Derived.Test.YtehkgcmdndehaaaSesB
import Derived.Test.YtehkgcmdndehaaaLawSW
namespace Go.Proofs.Ytehkgcmdndehaaa
set_option linter.unusedSimpArgs false
set_option linter.unusedVariables false
open Go.RowKit
attribute [local irreducible] feedAll feedL parseReqC itemCells frameN feedSt

theorem feed_breaks (l : List (List UInt8)) (M : Nat) (zs : List UInt8) (hl : ∀ x ∈ l, 1 ≤ x.length ∧ x.length ≤ 512) (h : M = 0 ∨ 512 < M) (h2 : M < 2000) :
    feedSt [] false (l.flatMap frameB ++ [byteOf ((M : Int) / 256), byteOf (M : Int)] ++ zs) = (l.map (fun x => itemCells (parseReqC x)) ++ [errItem], [], true) := by
  have e : frameN ([byteOf ((M : Int) / 256), byteOf (M : Int)] ++ zs) = M := by
    have : frameN ([byteOf ((M : Int) / 256), byteOf (M : Int)] ++ zs) = (byteOf ((M : Int) / 256)).toNat * 256 + (byteOf (M : Int)).toNat := by unfold frameN; rfl
    rw [this, show (M : Int) / 256 = ((M / 256 : Nat) : Int) by omega, byteOf_nat, byteOf_nat]
    omega
  rw [feedSt_ok, List.nil_append, List.append_assoc, feed_frames l _ hl, feedAll_bad _ (by simp) (by rw [e]; exact h)]
/-- What Feed answers, where it is known. -/
def FeedN (w : World) (b : Nat) (n : Nat) (xs : List (List Value)) (bs : List UInt8) (brk : Bool) (e : Ending) (w' : World) : Prop :=
  ∃ (v' : Value) (a : Option Addr) (c : Nat), e = .returned (.slice a n c) ∧ SesIs w' b v' bs brk ∧ Below b w w' ∧ w'.ownsRow w.heap.size 56 19 (.slice a n c) n (itemsV xs) ∧ ∀ x ∈ xs, x.length = 19
theorem sis_feed_n {w : World} {b : Nat} {v : Value} {bs : List UInt8} {brk : Bool} (h : SesIs w b v bs brk) (vb : Value) (zs : List UInt8) (hz : Reads w vb zs) (h1 : ∀ k, vb.ownBlock = some k → k ≠ b ∧ v.ownBlock ≠ some k) (hl : bs.length + zs.length ≤ 1000000)
    (xs : List (List Value)) (bs' : List UInt8) (brk' : Bool) (hR : feedSt bs brk zs = (xs, bs', brk')) (n : Nat) (hn : xs.length = n) :
    Calls Try.prog 24 #[.pointer (some ⟨b, 0, none⟩), vb] w (FeedN w b n xs bs' brk') := by
  subst hn
  refine (sis_feed h vb zs hz h1 hl).mono ?_
  have h19 := feedSt_19 bs brk zs
  rw [hR] at *
  rintro e w' ⟨v', a, c, rfl, hs, _, hB, ho⟩
  exact ⟨v', a, c, rfl, hs, hB, ho, h19⟩
theorem items_cells_n {w : World} {base n : Nat} {out : Value} {xs : List (List Value)} (h : w.ownsRow base 56 19 out n (itemsV xs)) (hx : xs.length = n) (h19 : ∀ x ∈ xs, x.length = 19) (hn : 0 < n) :
    ∃ g cap, out = .slice (some ⟨g, 0, none⟩) n cap ∧ base ≤ g ∧ g < w.heap.size ∧ n ≤ cap ∧ ∀ (i j : Nat) (x : List Value) (u : Value), xs[i]? = some x → x[j]? = some u → w.cell? ⟨g, i * 19 + j, none⟩ = some u := by
  subst hx
  exact items_cells h h19 hn
theorem frames_len : ∀ (l : List (List UInt8)), (∀ x ∈ l, 1 ≤ x.length ∧ x.length ≤ 512) → (l.flatMap frameB).length ≤ 514 * l.length
  | [], _ => by simp
  | z :: l, h => by
    have h1 := h z List.mem_cons_self
    have h2 := frames_len l (fun x hx => h x (List.mem_cons_of_mem _ hx))
    rw [List.flatMap_cons, List.length_append, frameB_length, List.length_cons]
    omega

set_option maxHeartbeats 3200000 in
set_option maxRecDepth 100000 in
theorem sb_big (A : Option Addr) (qn c : Nat) (n : Int) (A2 : Option Addr) (zn c2 : Nat) (w : World) (h : 10 < qn ∨ 1000 < zn) :
    Calls Try.prog 7 #[.slice A qn c, .int .i64 n, .slice A2 zn c2] w (TrueBelow w) := by
  by_cases h1 : 10 < qn
  · have h1' : (10 : Int) < (qn : Int) := by omega
    clear h h1
    go_enter Try.func7, Try.ntmps7
    go_wp2_with (go_at_call 21; refine (l19_known _).mono ?_; rintro e w1 ⟨rfl, hB1⟩)
    go_ret
    exact ⟨rfl, hB1⟩
  · have h1' : ¬ (10 : Int) < (qn : Int) := by omega
    have h2' : (1000 : Int) < (zn : Int) := by omega
    clear h h1
    go_enter Try.func7, Try.ntmps7
    go_wp2_with (go_at_call 21; refine (l19_known _).mono ?_; rintro e w1 ⟨rfl, hB1⟩)
    go_ret
    exact ⟨rfl, hB1⟩

set_option maxHeartbeats 3200000 in
set_option maxRecDepth 100000 in
theorem sb_cons (b off : Nat) (m : Nat) (qs : List ReqD) (hm : m = qs.length) (c : Nat) (n : Int) (hn : (Lit.int .i64 n).wf = true) (v2 : Value) (zs : List UInt8) (w : World) (hq : b < w.heap.size ∧ qs.length ≤ c ∧ ∀ (i : Nat) (q : ReqD), qs[i]? = some q → w.rangeAt b (off + i * 18) q.cells.toList) (hz : Reads w v2 zs) (h1 : ¬ 10 < m) (h2 : ¬ 1000 < zs.length) :
    Calls Try.prog 7 #[.slice (some ⟨b, off, none⟩) m c, .int .i64 n, v2] w (TrueBelow w) := by
  obtain ⟨a2, c2, rfl⟩ := hz.len
  obtain ⟨N, hN⟩ : ∃ N : Nat, n % 2000 = N := ⟨(n % 2000).toNat, by omega⟩
  have hNl : N < 2000 := by omega
  obtain ⟨M, hM, hM2, hM3⟩ : ∃ M : Nat, (M = if 1 ≤ N ∧ N ≤ 512 then 0 else N) ∧ (M = 0 ∨ 512 < M) ∧ M < 2000 := by
    refine ⟨_, rfl, ?_, ?_⟩ <;> split <;> omega
  have HMQ := Lib.hid hm
  clear hm
  have g1 : ¬ (10 : Int) < (m : Int) := by omega
  have g2 : ¬ (1000 : Int) < (zs.length : Int) := by omega
  have HH := Lib.hid (And.intro h1 h2)
  have HQ := Lib.hid hq
  have HZ := Lib.hid hz
  have HN := Lib.hid (And.intro hn hN)
  have HM := Lib.hid (And.intro hM (And.intro hM2 hM3))
  clear hq hz h1 h2 hn hN hM hM2 hM3
  go_enter Try.func7, Try.ntmps7
  go_upto_region 5 with (go_at_call 21; refine (l19_known _).mono ?_; rintro e w1 ⟨rfl, hB1⟩; have B1 := Lib.hid hB1; clear hB1)
  go_upto_region 6 with (go_at_call 27; refine (l19_within n 2000 w1 (by decide) (by decide) HN.out.1).mono ?_; rintro e w' ⟨rfl, rfl⟩; rw [HN.out.2])
  go_cut [33] (fun s33 wx => s33 = .bool (decide (1 ≤ N ∧ N ≤ 512)) ∧ wx = w1)
  case first =>
    by_cases p1 : 1 ≤ N
    · by_cases p2 : N ≤ 512
      · have p1' : (1 : Int) ≤ (N : Int) := by omega
        have p2' : (N : Int) ≤ 512 := by omega
        have P := Lib.hid (And.intro p1 p2)
        clear p1 p2
        go_wp2
        go_meet
        exact ⟨by rw [decide_eq_true P.out], rfl⟩
      · have p1' : (1 : Int) ≤ (N : Int) := by omega
        have p2' : ¬ (N : Int) ≤ 512 := by omega
        have P := Lib.hid (show ¬ (1 ≤ N ∧ N ≤ 512) by omega)
        clear p1 p2
        go_wp2
        go_meet
        exact ⟨by rw [decide_eq_false P.out], rfl⟩
    · have p1' : ¬ (1 : Int) ≤ (N : Int) := by omega
      have P := Lib.hid (show ¬ (1 ≤ N ∧ N ≤ 512) by omega)
      clear p1
      go_wp2
      go_meet
      exact ⟨by rw [decide_eq_false P.out], rfl⟩
  case rest =>
    obtain ⟨rfl, rfl⟩ := hcut
    go_upto_if 33 with (fail)
    go_cut [1] (fun s1 wx => s1 = .int .i64 M ∧ wx = wc)
    case first =>
      by_cases hin : 1 ≤ N ∧ N ≤ 512
      · have P : Hid (decide (1 ≤ N ∧ N ≤ 512) = true ∧ M = 0) := Lib.hid ⟨decide_eq_true hin, by rw [HM.out.1, if_pos hin]⟩
        clear hin
        rw [P.out.1]
        go_wp2
        go_meet
        exact ⟨by rw [P.out.2]; rfl, rfl⟩
      · have P : Hid (decide (1 ≤ N ∧ N ≤ 512) = false ∧ M = N) := Lib.hid ⟨decide_eq_false hin, by rw [HM.out.1, if_neg hin]⟩
        clear hin
        rw [P.out.1]
        go_wp2
        go_meet
        exact ⟨by rw [P.out.2], rfl⟩
    case rest =>
      obtain ⟨rfl, hwc⟩ := hcut
      have BW : Hid (Below w.heap.size w wc) := Lib.hid (by first | exact B1.out | (rw [hwc]; exact B1.out))
      clear hwc B1
      obtain ⟨W1, rfl⟩ : ∃ x : World, x = wc := ⟨_, rfl⟩
      go_wp2
      go_loopg [7, 8, 9] m (fun g s7 s8 s9 wr => ∃ (k : Nat) (l : List (List UInt8)), k + g = m ∧ s9 = .int .i64 k ∧ s7 = .int .i64 l.length ∧ OwnB wr w.heap.size s8 (l.flatMap frameB) ∧ (∀ x ∈ l, 1 ≤ x.length ∧ x.length ≤ 512) ∧ l.length ≤ k ∧ Below w.heap.size w wr)
      case atStart => exact ⟨0, [], by omega, rfl, rfl, OwnB.nil _ _, (fun x hx => by cases hx), Nat.le_refl _, BW.out⟩
      case round =>
        obtain ⟨k, l, hkg, rfl, rfl, ho, hl, hlk, hB⟩ := hrel
        have HL : Hid ((∀ x ∈ l, 1 ≤ x.length ∧ x.length ≤ 512) ∧ (l.flatMap frameB).length ≤ 514 * l.length) := Lib.hid ⟨hl, frames_len l hl⟩
        have HO := Lib.hid (And.intro ho hB)
        have hl10 : l.length ≤ 10 := by have := HH.out.1; omega
        have hbase : w.heap.size ≤ wr.heap.size := hB.size
        clear ho hl hB
        cases gk with
        | zero =>
          have hk : ¬ ((k : Int) < (m : Int)) := by omega
          have hk2 : decide ((k : Int) < (m : Int)) = false := by rw [decide_eq_false_iff_not]; omega
          clear hkg
          have HB1 := below_alloc wr (.cells #[.int .u8 ((M : Int) / 256 % 256), .int .u8 ((M : Int) % 256)] 5)
          have R1 : Hid (Reads (wr.alloc (.cells #[.int .u8 ((M : Int) / 256 % 256), .int .u8 ((M : Int) % 256)] 5)) (.slice (some ⟨wr.heap.size, 0, none⟩) 2 2) [byteOf ((M : Int) / 256), byteOf (M : Int)]) := Lib.hid (reads_lit wr 2 _ _ (by simp [bcells, byteOf_mod]) rfl (by decide))
          have O1 : Hid (OwnB (wr.alloc (.cells #[.int .u8 ((M : Int) / 256 % 256), .int .u8 ((M : Int) % 256)] 5)) w.heap.size u8 (l.flatMap frameB)) := Lib.hid (HO.out.1.of_below HB1)
          have HB1' := Lib.hid HB1
          clear HB1
          have fit1 : Fits ((l.flatMap frameB).length + [byteOf ((M : Int) / 256), byteOf (M : Int)].length) := fits_of _ (by have := HL.out.2; simp only [List.length_cons, List.length_nil]; omega)
          go_upto_region 19 with (refine wpList_append_bytes _ rfl (.tmp 64) (.tmp 70) rfl rfl w.heap.size u8 (l.flatMap frameB) rfl O1.out _ [byteOf ((M : Int) / 256), byteOf (M : Int)] rfl R1.out fit1 (by simp; omega) ?_; intro v4 w4 ho4 hg4; have X4 := Lib.hid (And.intro ho4 hg4); clear ho4 hg4)
          have BB4 : Hid (Below w.heap.size w w4) := Lib.hid (X4.out.2.below_ge (fun k hk => (O1.out.lt k hk).1) (HO.out.2.trans (HB1'.out.mono hbase)) (by simp; omega))
          have R4 : Hid (Reads w4 (.slice a2 zs.length c2) zs) := Lib.hid (HZ.out.below BB4.out)
          have hb4 : w.heap.size ≤ w4.heap.size := BB4.out.size
          have fit2 : Fits ((l.flatMap frameB ++ [byteOf ((M : Int) / 256), byteOf (M : Int)]).length + zs.length) := fits_of _ (by have := HL.out.2; have := HH.out.2; simp only [List.length_append, List.length_cons, List.length_nil]; omega)
          go_upto_region 20 with (refine wpList_append_bytes _ rfl (.tmp 72) (.tmp 73) rfl rfl w.heap.size v4 _ rfl X4.out.1 _ zs rfl R4.out fit2 hb4 ?_; intro v5 w5 ho5 hg5; have X5 := Lib.hid (And.intro ho5 hg5); clear ho5 hg5)
          have BB5 : Hid (Below w.heap.size w w5) := Lib.hid (X5.out.2.below_ge (fun k hk => (X4.out.1.lt k hk).1) BB4.out hb4)
          obtain ⟨BS, hBS⟩ : ∃ BS, BS = l.flatMap frameB ++ [byteOf ((M : Int) / 256), byteOf (M : Int)] ++ zs := ⟨_, rfl⟩
          have HFD : Hid (feedSt [] false BS = (l.map (fun x => itemCells (parseReqC x)) ++ [errItem], [], true)) := Lib.hid (by rw [hBS]; exact feed_breaks l M zs HL.out.1 HM.out.2.1 HM.out.2.2)
          have HBL : Hid (BS.length ≤ 7000) := Lib.hid (by rw [hBS]; have := HL.out.2; have := HH.out.2; simp only [List.length_append, List.length_cons, List.length_nil]; omega)
          have O5 : Hid (OwnB w5 w.heap.size v5 BS) := Lib.hid (by rw [hBS]; exact X5.out.1)
          clear hBS X4 X5 R1 R4 O1 fit1 fit2
          go_upto_region 21 with (go_at_call 23; refine (ses_new _).mono ?_; rintro e w6 hN; have X6 := Lib.hid (And.intro (SesIs.new hN) hN.2.2); obtain ⟨rfl, _⟩ := hN)
          have O6 : Hid (Reads w6 v5 BS) := Lib.hid ((Reads.of_own O5.out).below X6.out.2)
          have hb5 : w.heap.size ≤ w5.heap.size := BB5.out.size
          have N6 : Hid (∀ k, v5.ownBlock = some k → k ≠ w5.heap.size ∧ (Value.slice none 0 0).ownBlock ≠ some k) := Lib.hid (fun k hk => ⟨Nat.ne_of_lt (O5.out.lt k hk).2, fun e => by cases e⟩)
          go_upto_region 22 with (go_at_call 24; refine (sis_feed_n X6.out.1 v5 BS O6.out N6.out (by simp; have := HBL.out; omega) _ _ _ HFD.out (l.length + 1) (by simp)).mono ?_; rintro e w7 ⟨v7, a7, c7, rfl, hs7, hB7, ho7, h19⟩; have X7 := Lib.hid (And.intro hs7 (And.intro hB7 (And.intro ho7 h19))); clear hs7 hB7 ho7 h19)
          obtain ⟨g7, d7, ho7, _, _, hc7, hcells⟩ := items_cells_n X7.out.2.2.1 (by simp) X7.out.2.2.2 (by omega)
          obtain ⟨rfl, rfl⟩ : a7 = some ⟨g7, 0, none⟩ ∧ c7 = d7 := by injection ho7 with h1 h2 h3; exact ⟨h1, h3⟩
          have k18 : w7.cell? ⟨g7, l.length * 19 + 18, none⟩ = some (.int .i64 5) := hcells l.length 18 errItem _ (by simp) rfl
          have FIN : Hid (Below w.heap.size w w7) := Lib.hid ((BB5.out.trans (X6.out.2.mono hb5)).trans (X7.out.2.1.mono hb5))
          clear ho7 hcells
          have b1 : (((l.length : Int) + 1) == (l.length : Int) + 1) = true := by simp
          go_upto_region 24 with (first
            | (go_at_call 25; refine (sis_broken X7.out.1).mono ?_; rintro e w' ⟨rfl, rfl⟩)
            | (go_at_call 26; refine (sis_waits_n X7.out.1 0 rfl).mono ?_; rintro e w' ⟨rfl, rfl⟩))
          have A8 : Hid (SesIs (w7.alloc (.cells #[.int .u8 0, .int .u8 3, .int .u8 5, .int .u8 1, .int .u8 107] 5)) w5.heap.size v7 [] true) := Lib.hid (X7.out.1.on (below_alloc _ _))
          have R8 : Hid (Reads (w7.alloc (.cells #[.int .u8 0, .int .u8 3, .int .u8 5, .int .u8 1, .int .u8 107] 5)) (.slice (some ⟨w7.heap.size, 0, none⟩) 5 5) [0, 3, 5, 1, 107]) := Lib.hid (reads_lit w7 5 _ _ rfl rfl (by decide))
          have N8 : Hid (∀ k, (Value.slice (some ⟨w7.heap.size, 0, none⟩) 5 5).ownBlock = some k → k ≠ w5.heap.size ∧ v7.ownBlock ≠ some k) := Lib.hid (fun k hk => by
            have h0 : w7.heap.size = k := Option.some.inj hk
            have h1 := X7.out.1.lt
            exact ⟨by omega, fun e => by have := (X7.out.1.own.lt k e).2; omega⟩)
          go_wp2_with (first
            | (go_at_call 24; refine (sis_feed_n A8.out _ [0, 3, 5, 1, 107] R8.out N8.out (by decide) [] [] true (by rw [feedSt_brk]) 0 rfl).mono ?_; rintro e w9 ⟨v9, a9, c9, rfl, hs9, hB9, ho9, h19⟩; have X9 := Lib.hid (And.intro hs9 hB9); clear hs9 hB9 ho9 h19)
            | (go_at_call 25; refine (sis_broken X9.out.1).mono ?_; rintro e w' ⟨rfl, rfl⟩))
          go_ret
          exact ⟨ret_bool (by first | rfl | simp), (FIN.out.trans ((below_alloc w7 _).mono FIN.out.size)).trans (X9.out.2.mono hb5)⟩
        | succ g =>
          have hk : (k : Int) < (m : Int) := by omega
          have hkn : k < m := by omega
          have hkc : m ≤ c := by have := HQ.out.2.1; have := HMQ.out; omega
          obtain ⟨q, hq⟩ : ∃ q, qs[k]? = some q := ⟨_, List.getElem?_eq_getElem (by have := HMQ.out; omega)⟩
          have RG : Hid (wr.rangeAt b (off + k * 18) q.cells.toList) := Lib.hid (rangeAt_on (HQ.out.2.2 k q hq) HQ.out.1 HO.out.2)
          clear hq
          go_upto_region 14 with (first
            | (refine wpList_load_mid rfl 25 (.tmp 43) rfl b (off + k * 18) rfl q.cells.toList _ RG.out Try.underlying25 rfl (by kernel_rfl) ?_)
            | (go_at_call 28; refine (enc_any q _).mono ?_; rintro e w2 ⟨v2, z2, e2, rfl, hr2, hl2, hB2⟩; have X2 := Lib.hid (And.intro hr2 (And.intro hl2 hB2)); clear hr2 hl2 hB2))
          go_upto_region 15 with (go_at_call 19; refine (frame_any v2 z2 w2 X2.out.1).mono ?_; rintro e w3 ⟨v3, f3, e3, rfl, hr3, hl3, hf3, hB3⟩; have X3 := Lib.hid (And.intro hr3 (And.intro hl3 (And.intro hf3 hB3))); clear hr3 hl3 hf3 hB3)
          have HB3 : Hid (Below w.heap.size w w3 ∧ OwnB w3 w.heap.size u8 (l.flatMap frameB)) := Lib.hid ⟨(HO.out.2.trans (X2.out.2.2.mono hbase)).trans (X3.out.2.2.2.mono (Nat.le_trans hbase X2.out.2.2.size)), (HO.out.1.of_below X2.out.2.2).of_below X3.out.2.2.2⟩
          cases b2 : (e2 == 0)
          · go_wp2
            go_roundg g
            case measure => omega
            case rel => exact ⟨k + 1, l, by omega, by first | rfl | go_num, rfl, HB3.out.2, HL.out.1, by omega, HB3.out.1⟩
          · cases b3 : (e3 == 0)
            · go_wp2
              go_roundg g
              case measure => omega
              case rel => exact ⟨k + 1, l, by omega, by first | rfl | go_num, rfl, HB3.out.2, HL.out.1, by omega, HB3.out.1⟩
            · have HF : Hid (f3 = frameB z2 ∧ 1 ≤ z2.length ∧ z2.length ≤ 512) := Lib.hid (X3.out.2.2.1 (by simpa using b3))
              have hfit : Fits ((l.flatMap frameB).length + f3.length) := fits_of _ (by have := HL.out.2; have := X3.out.2.1; omega)
              have hb3 : w.heap.size ≤ w3.heap.size := HB3.out.1.size
              go_wp2_with (refine wpList_append_bytes _ rfl (.tmp 59) (.tmp 60) rfl rfl w.heap.size u8 (l.flatMap frameB) rfl HB3.out.2 v3 f3 rfl X3.out.1 hfit hb3 ?_; intro v4 w4 ho4 hg4; have X4 := Lib.hid (And.intro ho4 hg4); clear ho4 hg4)
              go_roundg g
              case measure => omega
              case rel =>
                refine ⟨k + 1, l ++ [z2], by omega, by first | rfl | go_num, by rw [List.length_append]; first | rfl | go_num, ?_, ?_, ?_, ?_⟩
                · have := X4.out.1
                  rw [HF.out.1] at this
                  rw [List.flatMap_append]
                  simpa using this
                · intro x hx
                  rcases List.mem_append.1 hx with h | h
                  · exact HL.out.1 x h
                  · rw [List.mem_singleton.1 h]; exact HF.out.2
                · rw [List.length_append]; simp; omega
                · exact X4.out.2.below_ge (fun k hk => (HB3.out.2.lt k hk).1) HB3.out.1 hb3
set_option maxHeartbeats 3200000 in
set_option maxRecDepth 100000 in
theorem sb_nil (A : Option Addr) (m : Nat) (qs : List ReqD) (hm : m = qs.length) (c : Nat) (n : Int) (hn : (Lit.int .i64 n).wf = true) (v2 : Value) (zs : List UInt8) (w : World) (hq : qs = []) (hz : Reads w v2 zs) (h1 : ¬ 10 < m) (h2 : ¬ 1000 < zs.length) :
    Calls Try.prog 7 #[.slice A m c, .int .i64 n, v2] w (TrueBelow w) := by
  obtain ⟨a2, c2, rfl⟩ := hz.len
  obtain ⟨N, hN⟩ : ∃ N : Nat, n % 2000 = N := ⟨(n % 2000).toNat, by omega⟩
  have hNl : N < 2000 := by omega
  obtain ⟨M, hM, hM2, hM3⟩ : ∃ M : Nat, (M = if 1 ≤ N ∧ N ≤ 512 then 0 else N) ∧ (M = 0 ∨ 512 < M) ∧ M < 2000 := by
    refine ⟨_, rfl, ?_, ?_⟩ <;> split <;> omega
  have HMQ := Lib.hid hm
  clear hm
  have g1 : ¬ (10 : Int) < (m : Int) := by omega
  have g2 : ¬ (1000 : Int) < (zs.length : Int) := by omega
  have HH := Lib.hid (And.intro h1 h2)
  have HQ := Lib.hid hq
  have HZ := Lib.hid hz
  have HN := Lib.hid (And.intro hn hN)
  have HM := Lib.hid (And.intro hM (And.intro hM2 hM3))
  clear hq hz h1 h2 hn hN hM hM2 hM3
  go_enter Try.func7, Try.ntmps7
  go_upto_region 5 with (go_at_call 21; refine (l19_known _).mono ?_; rintro e w1 ⟨rfl, hB1⟩; have B1 := Lib.hid hB1; clear hB1)
  go_upto_region 6 with (go_at_call 27; refine (l19_within n 2000 w1 (by decide) (by decide) HN.out.1).mono ?_; rintro e w' ⟨rfl, rfl⟩; rw [HN.out.2])
  go_cut [33] (fun s33 wx => s33 = .bool (decide (1 ≤ N ∧ N ≤ 512)) ∧ wx = w1)
  case first =>
    by_cases p1 : 1 ≤ N
    · by_cases p2 : N ≤ 512
      · have p1' : (1 : Int) ≤ (N : Int) := by omega
        have p2' : (N : Int) ≤ 512 := by omega
        have P := Lib.hid (And.intro p1 p2)
        clear p1 p2
        go_wp2
        go_meet
        exact ⟨by rw [decide_eq_true P.out], rfl⟩
      · have p1' : (1 : Int) ≤ (N : Int) := by omega
        have p2' : ¬ (N : Int) ≤ 512 := by omega
        have P := Lib.hid (show ¬ (1 ≤ N ∧ N ≤ 512) by omega)
        clear p1 p2
        go_wp2
        go_meet
        exact ⟨by rw [decide_eq_false P.out], rfl⟩
    · have p1' : ¬ (1 : Int) ≤ (N : Int) := by omega
      have P := Lib.hid (show ¬ (1 ≤ N ∧ N ≤ 512) by omega)
      clear p1
      go_wp2
      go_meet
      exact ⟨by rw [decide_eq_false P.out], rfl⟩
  case rest =>
    obtain ⟨rfl, rfl⟩ := hcut
    go_upto_if 33 with (fail)
    go_cut [1] (fun s1 wx => s1 = .int .i64 M ∧ wx = wc)
    case first =>
      by_cases hin : 1 ≤ N ∧ N ≤ 512
      · have P : Hid (decide (1 ≤ N ∧ N ≤ 512) = true ∧ M = 0) := Lib.hid ⟨decide_eq_true hin, by rw [HM.out.1, if_pos hin]⟩
        clear hin
        rw [P.out.1]
        go_wp2
        go_meet
        exact ⟨by rw [P.out.2]; rfl, rfl⟩
      · have P : Hid (decide (1 ≤ N ∧ N ≤ 512) = false ∧ M = N) := Lib.hid ⟨decide_eq_false hin, by rw [HM.out.1, if_neg hin]⟩
        clear hin
        rw [P.out.1]
        go_wp2
        go_meet
        exact ⟨by rw [P.out.2], rfl⟩
    case rest =>
      obtain ⟨rfl, hwc⟩ := hcut
      have BW : Hid (Below w.heap.size w wc) := Lib.hid (by first | exact B1.out | (rw [hwc]; exact B1.out))
      clear hwc B1
      obtain ⟨W1, rfl⟩ : ∃ x : World, x = wc := ⟨_, rfl⟩
      go_wp2
      go_loopg [7, 8, 9] m (fun g s7 s8 s9 wr => ∃ (k : Nat) (l : List (List UInt8)), k + g = m ∧ s9 = .int .i64 k ∧ s7 = .int .i64 l.length ∧ OwnB wr w.heap.size s8 (l.flatMap frameB) ∧ (∀ x ∈ l, 1 ≤ x.length ∧ x.length ≤ 512) ∧ l.length ≤ k ∧ Below w.heap.size w wr)
      case atStart => exact ⟨0, [], by omega, rfl, rfl, OwnB.nil _ _, (fun x hx => by cases hx), Nat.le_refl _, BW.out⟩
      case round =>
        obtain ⟨k, l, hkg, rfl, rfl, ho, hl, hlk, hB⟩ := hrel
        have HL : Hid ((∀ x ∈ l, 1 ≤ x.length ∧ x.length ≤ 512) ∧ (l.flatMap frameB).length ≤ 514 * l.length) := Lib.hid ⟨hl, frames_len l hl⟩
        have HO := Lib.hid (And.intro ho hB)
        have hl10 : l.length ≤ 10 := by have := HH.out.1; omega
        have hbase : w.heap.size ≤ wr.heap.size := hB.size
        clear ho hl hB
        cases gk with
        | zero =>
          have hk : ¬ ((k : Int) < (m : Int)) := by omega
          have hk2 : decide ((k : Int) < (m : Int)) = false := by rw [decide_eq_false_iff_not]; omega
          clear hkg
          have HB1 := below_alloc wr (.cells #[.int .u8 ((M : Int) / 256 % 256), .int .u8 ((M : Int) % 256)] 5)
          have R1 : Hid (Reads (wr.alloc (.cells #[.int .u8 ((M : Int) / 256 % 256), .int .u8 ((M : Int) % 256)] 5)) (.slice (some ⟨wr.heap.size, 0, none⟩) 2 2) [byteOf ((M : Int) / 256), byteOf (M : Int)]) := Lib.hid (reads_lit wr 2 _ _ (by simp [bcells, byteOf_mod]) rfl (by decide))
          have O1 : Hid (OwnB (wr.alloc (.cells #[.int .u8 ((M : Int) / 256 % 256), .int .u8 ((M : Int) % 256)] 5)) w.heap.size u8 (l.flatMap frameB)) := Lib.hid (HO.out.1.of_below HB1)
          have HB1' := Lib.hid HB1
          clear HB1
          have fit1 : Fits ((l.flatMap frameB).length + [byteOf ((M : Int) / 256), byteOf (M : Int)].length) := fits_of _ (by have := HL.out.2; simp only [List.length_cons, List.length_nil]; omega)
          go_upto_region 19 with (refine wpList_append_bytes _ rfl (.tmp 64) (.tmp 70) rfl rfl w.heap.size u8 (l.flatMap frameB) rfl O1.out _ [byteOf ((M : Int) / 256), byteOf (M : Int)] rfl R1.out fit1 (by simp; omega) ?_; intro v4 w4 ho4 hg4; have X4 := Lib.hid (And.intro ho4 hg4); clear ho4 hg4)
          have BB4 : Hid (Below w.heap.size w w4) := Lib.hid (X4.out.2.below_ge (fun k hk => (O1.out.lt k hk).1) (HO.out.2.trans (HB1'.out.mono hbase)) (by simp; omega))
          have R4 : Hid (Reads w4 (.slice a2 zs.length c2) zs) := Lib.hid (HZ.out.below BB4.out)
          have hb4 : w.heap.size ≤ w4.heap.size := BB4.out.size
          have fit2 : Fits ((l.flatMap frameB ++ [byteOf ((M : Int) / 256), byteOf (M : Int)]).length + zs.length) := fits_of _ (by have := HL.out.2; have := HH.out.2; simp only [List.length_append, List.length_cons, List.length_nil]; omega)
          go_upto_region 20 with (refine wpList_append_bytes _ rfl (.tmp 72) (.tmp 73) rfl rfl w.heap.size v4 _ rfl X4.out.1 _ zs rfl R4.out fit2 hb4 ?_; intro v5 w5 ho5 hg5; have X5 := Lib.hid (And.intro ho5 hg5); clear ho5 hg5)
          have BB5 : Hid (Below w.heap.size w w5) := Lib.hid (X5.out.2.below_ge (fun k hk => (X4.out.1.lt k hk).1) BB4.out hb4)
          obtain ⟨BS, hBS⟩ : ∃ BS, BS = l.flatMap frameB ++ [byteOf ((M : Int) / 256), byteOf (M : Int)] ++ zs := ⟨_, rfl⟩
          have HFD : Hid (feedSt [] false BS = (l.map (fun x => itemCells (parseReqC x)) ++ [errItem], [], true)) := Lib.hid (by rw [hBS]; exact feed_breaks l M zs HL.out.1 HM.out.2.1 HM.out.2.2)
          have HBL : Hid (BS.length ≤ 7000) := Lib.hid (by rw [hBS]; have := HL.out.2; have := HH.out.2; simp only [List.length_append, List.length_cons, List.length_nil]; omega)
          have O5 : Hid (OwnB w5 w.heap.size v5 BS) := Lib.hid (by rw [hBS]; exact X5.out.1)
          clear hBS X4 X5 R1 R4 O1 fit1 fit2
          go_upto_region 21 with (go_at_call 23; refine (ses_new _).mono ?_; rintro e w6 hN; have X6 := Lib.hid (And.intro (SesIs.new hN) hN.2.2); obtain ⟨rfl, _⟩ := hN)
          have O6 : Hid (Reads w6 v5 BS) := Lib.hid ((Reads.of_own O5.out).below X6.out.2)
          have hb5 : w.heap.size ≤ w5.heap.size := BB5.out.size
          have N6 : Hid (∀ k, v5.ownBlock = some k → k ≠ w5.heap.size ∧ (Value.slice none 0 0).ownBlock ≠ some k) := Lib.hid (fun k hk => ⟨Nat.ne_of_lt (O5.out.lt k hk).2, fun e => by cases e⟩)
          go_upto_region 22 with (go_at_call 24; refine (sis_feed_n X6.out.1 v5 BS O6.out N6.out (by simp; have := HBL.out; omega) _ _ _ HFD.out (l.length + 1) (by simp)).mono ?_; rintro e w7 ⟨v7, a7, c7, rfl, hs7, hB7, ho7, h19⟩; have X7 := Lib.hid (And.intro hs7 (And.intro hB7 (And.intro ho7 h19))); clear hs7 hB7 ho7 h19)
          obtain ⟨g7, d7, ho7, _, _, hc7, hcells⟩ := items_cells_n X7.out.2.2.1 (by simp) X7.out.2.2.2 (by omega)
          obtain ⟨rfl, rfl⟩ : a7 = some ⟨g7, 0, none⟩ ∧ c7 = d7 := by injection ho7 with h1 h2 h3; exact ⟨h1, h3⟩
          have k18 : w7.cell? ⟨g7, l.length * 19 + 18, none⟩ = some (.int .i64 5) := hcells l.length 18 errItem _ (by simp) rfl
          have FIN : Hid (Below w.heap.size w w7) := Lib.hid ((BB5.out.trans (X6.out.2.mono hb5)).trans (X7.out.2.1.mono hb5))
          clear ho7 hcells
          have b1 : (((l.length : Int) + 1) == (l.length : Int) + 1) = true := by simp
          go_upto_region 24 with (first
            | (go_at_call 25; refine (sis_broken X7.out.1).mono ?_; rintro e w' ⟨rfl, rfl⟩)
            | (go_at_call 26; refine (sis_waits_n X7.out.1 0 rfl).mono ?_; rintro e w' ⟨rfl, rfl⟩))
          have A8 : Hid (SesIs (w7.alloc (.cells #[.int .u8 0, .int .u8 3, .int .u8 5, .int .u8 1, .int .u8 107] 5)) w5.heap.size v7 [] true) := Lib.hid (X7.out.1.on (below_alloc _ _))
          have R8 : Hid (Reads (w7.alloc (.cells #[.int .u8 0, .int .u8 3, .int .u8 5, .int .u8 1, .int .u8 107] 5)) (.slice (some ⟨w7.heap.size, 0, none⟩) 5 5) [0, 3, 5, 1, 107]) := Lib.hid (reads_lit w7 5 _ _ rfl rfl (by decide))
          have N8 : Hid (∀ k, (Value.slice (some ⟨w7.heap.size, 0, none⟩) 5 5).ownBlock = some k → k ≠ w5.heap.size ∧ v7.ownBlock ≠ some k) := Lib.hid (fun k hk => by
            have h0 : w7.heap.size = k := Option.some.inj hk
            have h1 := X7.out.1.lt
            exact ⟨by omega, fun e => by have := (X7.out.1.own.lt k e).2; omega⟩)
          go_wp2_with (first
            | (go_at_call 24; refine (sis_feed_n A8.out _ [0, 3, 5, 1, 107] R8.out N8.out (by decide) [] [] true (by rw [feedSt_brk]) 0 rfl).mono ?_; rintro e w9 ⟨v9, a9, c9, rfl, hs9, hB9, ho9, h19⟩; have X9 := Lib.hid (And.intro hs9 hB9); clear hs9 hB9 ho9 h19)
            | (go_at_call 25; refine (sis_broken X9.out.1).mono ?_; rintro e w' ⟨rfl, rfl⟩))
          go_ret
          exact ⟨ret_bool (by first | rfl | simp), (FIN.out.trans ((below_alloc w7 _).mono FIN.out.size)).trans (X9.out.2.mono hb5)⟩
        | succ g =>
          exfalso
          have h0 := HQ.out
          have h3 := HMQ.out
          rw [h0] at h3
          simp at h3
          omega
theorem sessionBreaks_walk {w : World} (v0 : Value) (qs : List ReqD) (h0 : RdReqs w v0 qs) (n : Int) (hn : (Lit.int .i64 n).wf = true) (v2 : Value) (zs : List UInt8) (hz : Reads w v2 zs) :
    Calls Try.prog 7 #[v0, .int .i64 n, v2] w (TrueBelow w) := by
  by_cases hbig : 10 < qs.length ∨ 1000 < zs.length
  · obtain ⟨a2, c2, rfl⟩ := hz.len
    rcases h0 with ⟨rfl, a, c, rfl⟩ | ⟨b, off, c, rfl, _⟩
    · exact sb_big a 0 c n a2 _ c2 w hbig
    · exact sb_big _ _ c n a2 _ c2 w hbig
  · rcases h0 with ⟨rfl, a, c, rfl⟩ | ⟨b, off, c, rfl, hc, _, hb, hq⟩
    · exact sb_nil a 0 [] rfl c n hn v2 zs w rfl hz (by omega) (by omega)
    · exact sb_cons b off _ qs rfl c n hn v2 zs w ⟨hb, hc, fun i q hi => (hq i q hi).1⟩ hz (by omega) (by omega)
end Go.Proofs.Ytehkgcmdndehaaa
