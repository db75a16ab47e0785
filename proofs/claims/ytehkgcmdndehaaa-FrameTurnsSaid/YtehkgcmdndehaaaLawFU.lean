/-
  Law FrameTurns: the rounds.
-/
import Derived.Test.YtehkgcmdndehaaaLawFT
import Derived.Deep.CutRange
namespace Go.Proofs.Ytehkgcmdndehaaa
set_option linter.unusedSimpArgs false
set_option linter.unusedVariables false
open Go.RowKit

attribute [local go_sem ↓] ld_req
attribute [local go_sem ↓] ld_ansR

theorem wrap8 (x : Int) : 0 ≤ IntKind.u8.wrap x ∧ IntKind.u8.wrap x < 256 := by
  simp [IntKind.wrap, IntKind.bits, IntKind.signed]
  omega
theorem grew_refG {w w' : World} {g n c : Nat} {v : Value} (h : Grew w w' (.slice (some ⟨g, 0, none⟩) n c) v) : RefG w w' g :=
  ⟨h.os, h.tape, h.output, h.size, fun k hk hx => h.block k hk (fun e => hx (Option.some.inj e).symm)⟩
theorem own_any {w : World} {base : Nat} {v : Value} {zd zs : List UInt8} (h : OwnB w base v (zd ++ zs)) : ∃ ax nx cx xs, v = .slice ax nx cx ∧ Reads w (.slice ax nx cx) xs ∧ xs.length = zd.length + zs.length := by
  have hr := Reads.of_own h
  obtain ⟨a, c, hv⟩ := hr.len
  exact ⟨a, _, c, zd ++ zs, hv, by rw [← hv]; exact hr, by simp⟩
set_option maxHeartbeats 3200000 in
set_option maxRecDepth 100000 in
theorem ft_main (r : ReqD) (hr : ReqOk r) (a : AnsD) (va : Value) (vb : Value) (ys : List UInt8) (cut : Int) (hcw : (Lit.int .i64 cut).wf = true) (vm : Value) (zs : List UInt8) (w : World) (hm : Reads w vm zs) (A2 : Option Addr) (n2 c2 : Nat) (ns : List Int) (hv2 : va = .slice A2 n2 c2) (hn2 : n2 = ns.length) (hra : RdInts w va ns) (B2 : Option Addr) (n3 c3 : Nat) (hv3 : vb = .slice B2 n3 c3) (hn3 : n3 = ys.length) (hrb : Reads w vb ys) (hf : r.few = true) (he : (encR r).2 = 0) (hl : ¬ 100 < zs.length) (hb1 : ¬ a.err < 0) (hb2 : ¬ 255 < a.err) (hb3 : ¬ 255 < a.stmt.name.size) :
    Calls Try.prog 10 #[.agg r.cells, .agg a.cells, va, vb, .int .i64 cut, vm] w (TrueBelow w) := by
  obtain ⟨am, cm, rfl⟩ := hm.len
  have HM := Lib.hid hm
  have HR := Lib.hid (And.intro hr hcw)
  subst hv2 hv3
  have HE : Hid ((encR r).2 = 0) := Lib.hid he
  have HF : Hid (r.few = true) := Lib.hid hf
  have HL : Hid (zs.length ≤ 100 ∧ a.stmt.name.size ≤ 255) := Lib.hid ⟨by omega, by omega⟩
  have HA2 : Hid (n2 = ns.length ∧ RdInts w (.slice A2 n2 c2) ns) := Lib.hid ⟨hn2, hra⟩
  have HB2 : Hid (n3 = ys.length ∧ Reads w (.slice B2 n3 c3) ys) := Lib.hid ⟨hn3, hrb⟩
  have l1 : decide (100 < (zs.length : Int)) = false := by simp; omega
  have l2 : decide (a.err < 0) = false := by simpa using hb1
  have l3 : decide (255 < a.err) = false := by simpa using hb2
  have l4 : decide (255 < (a.stmt.name.size : Int)) = false := by simp; omega
  clear hf he hl hb1 hb2 hb3 hn2 hn3 hra hrb
  clear hm hr hcw
  go_enter Try.func10, Try.ntmps10
  go_upto_region 1 with (fail)
  have hA : ((w.alloc (.cells r.cells 25)).alloc (.cells a.cells 38)).heap[w.heap.size]? = some (.cells r.cells 25 (0, 0)) := ((below_alloc _ _).block _ (by simp)).trans (heap_alloc_new _ _)
  have hO : ((w.alloc (.cells r.cells 25)).alloc (.cells a.cells 38)).heap[w.heap.size + 1]? = some (.cells a.cells 38 (0, 0)) := by
    have := heap_alloc_new (w.alloc (.cells r.cells 25)) (.cells a.cells 38)
    simpa using this
  have hBW := below_alloc2 w (.cells r.cells 25) (.cells a.cells 38)
  generalize (w.alloc (.cells r.cells 25)).alloc (.cells a.cells 38) = W0 at *
  generalize hob : w.heap.size + 1 = ob at *
  generalize hab : w.heap.size = ab at *
  have HAB := Lib.hid (And.intro hab hob)
  clear hab hob
  have X0 : Hid (Below ab w W0 ∧ W0.heap[ab]? = some (.cells r.cells 25 (0, 0)) ∧ W0.heap[ob]? = some (.cells a.cells 38 (0, 0))) := Lib.hid ⟨hBW, hA, hO⟩
  clear hA hO hBW
  go_upto_region 3 with (go_at_call 11; refine (l18_known _).mono ?_; rintro e w1 ⟨rfl, hB1⟩; have X1 : Hid (Below ab w w1 ∧ w1.heap[ab]? = some (.cells r.cells 25 (0, 0)) ∧ w1.heap[ob]? = some (.cells a.cells 38 (0, 0))) := Lib.hid ⟨X0.out.1.trans (hB1.mono (by have := X0.out.1.size; have := HAB.out.1; omega)), row_on X0.out.2.1 hB1, row_on X0.out.2.2 hB1⟩; clear hB1)
  have hsz1 : Hid (ab ≤ w1.heap.size) := Lib.hid (by have := X1.out.1.size; have := HAB.out.1; omega)
  go_upto_region 6 with (first
    | (refine wpList_load_row rfl 25 (.tmp 6) rfl ab rfl 25 r.cells (0, 0) _ (by first | exact X1.out.2.1 | exact X2.out.2.1) Try.underlying25 (by kernel_rfl) (by kernel_rfl) ?_)
    | (go_at_call 28; refine (ref_encOwn r _ HE.out).mono ?_; rintro e w2 ⟨v2, rfl, ho2, hB2⟩; have X2 : Hid (Below ab w w2 ∧ w2.heap[ab]? = some (.cells r.cells 25 (0, 0)) ∧ w2.heap[ob]? = some (.cells a.cells 38 (0, 0))) := Lib.hid ⟨X1.out.1.trans (hB2.mono hsz1.out), row_on X1.out.2.1 hB2, row_on X1.out.2.2 hB2⟩; obtain ⟨g20, n20, c20, rfl⟩ := ownB_shape2 ho2 (reqb_len r HE.out).1; have O2 := Lib.hid ho2; clear hB2 ho2)
    | (go_at_call 12; refine (l18_few r HR.out.1 _).mono ?_; rintro e w3 ⟨rfl, hB3⟩; have X3 : Hid (Below ab w w3 ∧ w3.heap[ab]? = some (.cells r.cells 25 (0, 0)) ∧ w3.heap[ob]? = some (.cells a.cells 38 (0, 0))) := Lib.hid ⟨X2.out.1.trans (hB3.mono (by have := X2.out.1.size; have := HAB.out.1; omega)), row_on X2.out.2.1 hB3, row_on X2.out.2.2 hB3⟩; have k0 : w3.cell? ⟨ob, 0, none⟩ = some (.int .i64 a.err) := (by rw [cell_of_row _ _ _ _ _ _ X3.out.2.2]; rfl); have k4 : w3.cell? ⟨ob, 4, none⟩ = some (.string a.stmt.name) := (by rw [cell_of_row _ _ _ _ _ _ X3.out.2.2]; rfl); rw [HF.out]; have B3 := Lib.hid hB3; clear hB3))
  clear l1 l2 l3 l4 k0 k4 X1 X0
  go_upto_region 7 with (first
    | (refine wpList_load_row rfl 38 (.tmp 7) rfl ob rfl 38 a.cells (0, 0) _ X3.out.2.2 Try.underlying38 (by kernel_rfl) (by kernel_rfl) ?_)
    | (go_at_call 20; refine (ref_enc_ans a _ (by have := HL.out; omega)).mono ?_; rintro e w4 ⟨v3, rfl, ho4, hB4⟩; obtain ⟨g30, n30, c30, rfl⟩ := ownB_shape2 ho4 (encAns_len a HL.out.2).1; have X4 := Lib.hid (And.intro ho4 hB4); clear ho4 hB4))
  have hg : ∃ g0 c0 g1 c1, FtAt w w4.heap.size g0 c0 g1 c1 r.bytes (encAns a) (w4.alloc (.cells #[.slice (some ⟨g20, 0, none⟩) n20 c20, .slice (some ⟨g30, 0, none⟩) n30 c30] 28)) 0 := by
    have h2 := reqb_len r HE.out
    have h3 := encAns_len a HL.out.2
    have hz := hsz1.out
    refine ft_start (w2 := w2) (w3 := w3) (b1 := w1.heap.size) (by rw [HAB.out.1]; exact hz) O2.out B3.out X4.out.1 X4.out.2 (below_alloc _ _) (by rw [World.cell?_alloc_at _ _ _ _ rfl]; rfl) (by rw [World.cell?_alloc_at _ _ _ _ rfl]; rfl) ?_ ⟨h2.1, h2.2, h3.1, h3.2⟩
    rw [HAB.out.1]
    exact X3.out.1.trans (X4.out.2.mono (by have := X3.out.1.size; have := HAB.out.1; omega))
  obtain ⟨g0, c0, g1, c1, hft⟩ := hg
  generalize w4.alloc (.cells #[.slice (some ⟨g20, 0, none⟩) n20 c20, .slice (some ⟨g30, 0, none⟩) n30 c30] 28) = W5 at *
  generalize w4.heap.size = gb at *
  generalize r.bytes = x0 at *
  generalize encAns a = y0 at *
  have FT0 := Lib.hid hft
  clear hft X3 X4 B3 O2 HE HF hsz1
  go_wp2
  go_loopg [16] 2 (fun g s16 wr => ∃ k : Nat, k + g = 2 ∧ s16 = .int .i64 k ∧ FtAt w gb g0 c0 g1 c1 x0 y0 wr k)
  case atStart => exact ⟨0, by omega, rfl, FT0.out⟩
  case round =>
    obtain ⟨k, hkg, rfl, hft⟩ := hrel
    obtain ⟨Wr, rfl⟩ : ∃ x : World, x = wr := ⟨_, rfl⟩
    have FT := Lib.hid hft
    clear hft FT0
    cases gk with
    | zero =>
      have hk : ¬ ((k : Int) < 2) := by omega
      clear hkg
      go_wp2
      go_ret
      exact ⟨rfl, FT.out.below⟩
    | succ gk1 =>
      have hk : (k : Int) < 2 := by omega
      have hk2 : k < 2 := by omega
      obtain ⟨g, c, zk, hcell, hown, hz1, hz2, hwg, hnext⟩ := FT.out.get hk2
      obtain ⟨N, hN⟩ : ∃ N, N = zk.length := ⟨_, rfl⟩
      rw [← hN] at hcell hown hz1 hz2
      have HO := Lib.hid (And.intro hown (And.intro hwg hN))
      have HZ := Lib.hid (And.intro hz1 hz2)
      have HNX := Lib.hid hnext
      have HBW : Hid (Below w.heap.size w Wr) := Lib.hid FT.out.below
      have HKG := Lib.hid hkg
      obtain ⟨m, hm⟩ : ∃ m, m = min (min n2 n3) 3 := ⟨_, rfl⟩
      have HMM := Lib.hid hm
      clear hown hz1 hz2 hwg hN hnext hk2 hkg hm FT
      go_wp2
      go_loopg [18] m (fun g2 s18 wy => ∃ (j : Nat) (zy : List UInt8), j + g2 = m ∧ s18 = .int .i64 j ∧ zy.length = N ∧ OwnB wy w.heap.size (.slice (some ⟨g, 0, none⟩) N c) zy ∧ RefG Wr wy g)
      case atStart => exact ⟨0, zk, by omega, rfl, HO.out.2.2.symm, HO.out.1, RefG.refl _ _⟩
      case round =>
        obtain ⟨j, zy, hjg, rfl, hzl, hoy, hgy⟩ := hrel
        obtain ⟨wy, rfl⟩ : ∃ x : World, x = wr := ⟨_, rfl⟩
        have HY := Lib.hid (And.intro hzl (And.intro hoy hgy))
        clear hzl hoy hgy
        cases gk with
        | zero =>
          have HJ : Hid (j = min (min n2 n3) 3) := Lib.hid (by rw [← HMM.out]; omega)
          clear hjg hcell
          go_upto_region 12 with (fail)
          go_cut [88] from 75 to 106 (fun s88 wx => s88 = .bool false ∧ ∃ zy : List UInt8, zy.length = N ∧ OwnB wx w.heap.size (.slice (some ⟨g, 0, none⟩) N c) zy ∧ RefG Wr wx g)
          case first =>
            by_cases q1 : (j : Int) < (n2 : Int)
            · by_cases q2 : (j : Int) < (n3 : Int)
              · have q3 : ¬ ((j : Int) < 3) := by have := HJ.out; omega
                go_wp2
                go_meet
                exact ⟨rfl, _, HY.out⟩
              · go_wp2
                go_meet
                exact ⟨rfl, _, HY.out⟩
            · go_wp2
              go_meet
              exact ⟨rfl, _, HY.out⟩
          case rest =>
            obtain ⟨rfl, zc, hY⟩ := hcut
            have HC := Lib.hid hY
            clear hY HY
            obtain ⟨W8, rfl⟩ : ∃ x : World, x = wc := ⟨_, rfl⟩
            go_upto_if 108 with (fail)
            go_cut [17] from 67 to 163 (fun s17 wx => ∃ (n' : Nat) (zd : List UInt8), s17 = .slice (some ⟨g, 0, none⟩) n' c ∧ n' = zd.length ∧ OwnB wx w.heap.size (.slice (some ⟨g, 0, none⟩) n' c) zd ∧ n' ≤ 2000 ∧ RefG Wr wx g)
            case first =>
              by_cases hc : (0 : Int) < cut
              · obtain ⟨q, hq⟩ : ∃ q : Nat, cut % ((N : Int) + 1) = (q : Int) := ⟨(cut % ((N : Int) + 1)).toNat, by have := Int.emod_nonneg cut (show (N : Int) + 1 ≠ 0 by omega); omega⟩
                have hqN : q ≤ N := by have := Int.emod_lt_of_pos cut (show (0 : Int) < (N : Int) + 1 by omega); omega
                obtain ⟨p, hp⟩ : ∃ p, q + p = N := ⟨N - q, by omega⟩
                have HW2 : Hid ((0 : Int) < (N : Int) + 1 ∧ (N : Int) + 1 ≤ 1000000 ∧ (Lit.int .i64 cut).wf = true ∧ cut % ((N : Int) + 1) = (q : Int)) := Lib.hid ⟨by omega, by have := HZ.out; omega, HR.out.2, hq⟩
                have hN2 : N ≤ 2000 := HZ.out.2
                have hsub : (N : Int) - (q : Int) = (p : Int) := by omega
                have hpc : p ≤ c := by have := ownB_lt HC.out.2.1; omega
                have HP : Hid (p ≤ N) := Lib.hid (by omega)
                clear hq hp
                go_wp2_with (go_at_call 14; refine (l18_within _ _ _ HW2.out.1 HW2.out.2.1 HW2.out.2.2.1).mono ?_; rintro e w9 ⟨rfl, rfl⟩; rw [HW2.out.2.2.2])
                go_meet
                exact ⟨p, zc.take p, by first | rfl | (congr 1; omega), by have h1 := HP.out; have h2 := HC.out.1; rw [List.length_take]; omega, ownB_take HC.out.2.1 HP.out, Nat.le_trans HP.out hN2, HC.out.2.2⟩
              · go_wp2
                go_meet
                exact ⟨N, zc, rfl, HC.out.1.symm, HC.out.2.1, HZ.out.2, HC.out.2.2⟩
            case rest =>
              obtain ⟨n', zd, rfl, hn', ho, hle, hg⟩ := hcut
              have HD := Lib.hid (And.intro ho (And.intro hg (And.intro hn' hle)))
              clear ho hg hn' hle HC
              obtain ⟨W9, rfl⟩ : ∃ x : World, x = wc := ⟨_, rfl⟩
              have BD : Hid (Below w.heap.size w W9) := Lib.hid (below_refG HBW.out (Nat.le_refl _) HD.out.2.1 HO.out.2.1)
              have MD : Hid (Reads W9 (.slice am zs.length cm) zs) := Lib.hid (HM.out.below BD.out)
              go_upto_region 18 with (first
                | (at_builtin; refine wpList_append_bytes _ rfl (.tmp 119) (.tmp 120) rfl rfl w.heap.size (.slice (some ⟨g, 0, none⟩) n' c) zd rfl HD.out.1 (.slice am zs.length cm) zs rfl MD.out (fits_of _ (by have := HL.out; have := HD.out.2.2; omega)) BD.out.size ?_
                   intro vc wa ho hgw
                   obtain ⟨ax, nx, cx, xs, rfl, hxs, hxl⟩ := own_any ho
                   have XA : Hid (Reads wa (.slice ax nx cx) xs ∧ RefG Wr wa g ∧ xs.length ≤ 2100) := Lib.hid ⟨hxs, HD.out.2.1.trans (grew_refG hgw), by have := HL.out; have := HD.out.2.2; omega⟩
                   clear ho hgw hxs hxl))
              clear HD BD MD
              obtain ⟨Q, hQ⟩ := parseQ_shape xs
              have HQ := Lib.hid hQ
              clear hQ
              go_upto_region 19 with (first
                | (at_builtin; refine wpList_append_bytes _ rfl (.tmp 123) (.tmp 124) rfl rfl wa.heap.size (.slice (some ⟨wa.heap.size, 0, none⟩) 0 0) [] rfl ownB_empty (.slice ax nx cx) xs rfl (XA.out.1.below (below_alloc _ _)) (fits_of _ (by have := XA.out.2.2; simp; omega)) (by simp) ?_
                   intro vb wb ho hgw
                   have A7 : Hid (Reads wb vb xs ∧ Below wa.heap.size wa wb) := Lib.hid ⟨by simpa using Reads.of_own ho, hgw.below_ge (fun k hk => by simp [Value.ownBlock] at hk; omega) (below_alloc _ _) (by simp)⟩
                   clear ho hgw)
                | (go_at_call 29; refine (fr_parse_req vb xs wb A7.out.1 (by have := XA.out.2.2; omega)).mono ?_; rintro e w7 hp; have hp2 := pq_of hp HQ.out; clear hp; obtain ⟨rfl, hB7⟩ := hp2; have B7 := Lib.hid hB7; clear hB7)
                | (refine wpList_store_row rfl 25 (.tmp 19) (.tmp 127) rfl w7.heap.size Q.cells rfl rfl 25 reqZ0.cells (heap_alloc_new _ _) (by kernel_rfl) rfl (req_one_cells _) ?_))
              change Code.wp _ _ _ _ ((w7.alloc (.cells reqZ0.cells 25)).setRow w7.heap.size Q.cells)
              have hm := row_madeR w7 Q.cells reqZ0.cells 25
              generalize (w7.alloc (.cells reqZ0.cells 25)).setRow w7.heap.size Q.cells = V1 at *
              have h67 : Below wa.heap.size wa V1 := (A7.out.2.trans (B7.out.mono A7.out.2.size)).trans (hm.1.mono (Nat.le_trans A7.out.2.size B7.out.size))
              generalize w7.heap.size = p1 at *
              have X1 : Hid (Reads V1 (.slice ax nx cx) xs ∧ RefG Wr V1 g ∧ xs.length ≤ 2100 ∧ V1.heap[p1]? = some (.cells Q.cells 25 (0, 0))) := Lib.hid ⟨XA.out.1.below h67, XA.out.2.1.trans (RefG.of_below h67), XA.out.2.2, hm.2.1⟩
              clear hm h67 A7 B7 XA
              go_upto_region 20 with (first
                | (go_at_call 30; refine (ref_parse_req (.slice ax nx cx) xs V1 X1.out.1 (by have := X1.out.2.2.1; omega)).mono ?_; rintro e w8 hp; have hp2 := pq_of hp HQ.out; clear hp; obtain ⟨rfl, hB8⟩ := hp2; have B8 := Lib.hid hB8; clear hB8)
                | (refine wpList_store_row rfl 25 (.tmp 21) (.tmp 132) rfl w8.heap.size Q.cells rfl rfl 25 reqZ0.cells (heap_alloc_new _ _) (by kernel_rfl) rfl (req_one_cells _) ?_))
              change Code.wp _ _ _ _ ((w8.alloc (.cells reqZ0.cells 25)).setRow w8.heap.size Q.cells)
              have hm := row_madeR w8 Q.cells reqZ0.cells 25
              generalize (w8.alloc (.cells reqZ0.cells 25)).setRow w8.heap.size Q.cells = V2 at *
              have h78 : Below V1.heap.size V1 V2 := B8.out.trans (hm.1.mono B8.out.size)
              generalize w8.heap.size = p2 at *
              have X2 : Hid (Reads V2 (.slice ax nx cx) xs ∧ RefG Wr V2 g ∧ xs.length ≤ 2100 ∧ V2.heap[p1]? = some (.cells Q.cells 25 (0, 0)) ∧ V2.heap[p2]? = some (.cells Q.cells 25 (0, 0))) := Lib.hid ⟨X1.out.1.below h78, X1.out.2.1.trans (RefG.of_below h78), X1.out.2.2.1, row_on X1.out.2.2.2 h78, hm.2.1⟩
              clear hm h78 B8 X1
              go_upto_region 21 with (first
                | (at_builtin; refine wpList_append_bytes _ rfl (.tmp 135) (.tmp 136) rfl rfl V2.heap.size (.slice (some ⟨V2.heap.size, 0, none⟩) 0 0) [] rfl ownB_empty (.slice ax nx cx) xs rfl (X2.out.1.below (below_alloc _ _)) (fits_of _ (by have := X2.out.2.2.1; simp; omega)) (by simp) ?_
                   intro vb wb ho hgw
                   have A7 : Hid (Reads wb vb xs ∧ Below V2.heap.size V2 wb) := Lib.hid ⟨by simpa using Reads.of_own ho, hgw.below_ge (fun k hk => by simp [Value.ownBlock] at hk; omega) (below_alloc _ _) (by simp)⟩
                   clear ho hgw)
                | (go_at_call 17; refine (fr_parse_ans vb xs wb A7.out.1 (by have := X2.out.2.2.1; omega)).mono ?_; rintro e w10 ⟨rfl, hB10⟩; have B10 := Lib.hid hB10; clear hB10)
                | (refine wpList_store_row rfl 38 (.tmp 23) (.tmp 139) rfl w10.heap.size (parseAns xs).1.cells rfl rfl 38 ansZ.cells (heap_alloc_new _ _) (by kernel_rfl) rfl (ans_one_cells _) ?_))
              change Code.wp _ _ _ _ ((w10.alloc (.cells ansZ.cells 38)).setRow w10.heap.size (parseAns xs).1.cells)
              have hm := row_madeR w10 (parseAns xs).1.cells ansZ.cells 38
              generalize (w10.alloc (.cells ansZ.cells 38)).setRow w10.heap.size (parseAns xs).1.cells = V3 at *
              have h67 : Below V2.heap.size V2 V3 := (A7.out.2.trans (B10.out.mono A7.out.2.size)).trans (hm.1.mono (Nat.le_trans A7.out.2.size B10.out.size))
              generalize w10.heap.size = p3 at *
              have X3 : Hid (Reads V3 (.slice ax nx cx) xs ∧ RefG Wr V3 g ∧ xs.length ≤ 2100 ∧ V3.heap[p1]? = some (.cells Q.cells 25 (0, 0)) ∧ V3.heap[p2]? = some (.cells Q.cells 25 (0, 0)) ∧ V3.heap[p3]? = some (.cells (parseAns xs).1.cells 38 (0, 0))) := Lib.hid ⟨X2.out.1.below h67, X2.out.2.1.trans (RefG.of_below h67), X2.out.2.2.1, row_on X2.out.2.2.2.1 h67, row_on X2.out.2.2.2.2 h67, hm.2.1⟩
              clear hm h67 A7 B10 X2
              go_upto_region 22 with (first
                | (go_at_call 18; refine (ref_parse_ans (.slice ax nx cx) xs V3 X3.out.1 (by have := X3.out.2.2.1; omega)).mono ?_; rintro e w11 ⟨rfl, hB11⟩; have B11 := Lib.hid hB11; clear hB11)
                | (refine wpList_store_row rfl 38 (.tmp 25) (.tmp 144) rfl w11.heap.size (parseAns xs).1.cells rfl rfl 38 ansZ.cells (heap_alloc_new _ _) (by kernel_rfl) rfl (ans_one_cells _) ?_))
              change Code.wp _ _ _ _ ((w11.alloc (.cells ansZ.cells 38)).setRow w11.heap.size (parseAns xs).1.cells)
              have hm := row_madeR w11 (parseAns xs).1.cells ansZ.cells 38
              generalize (w11.alloc (.cells ansZ.cells 38)).setRow w11.heap.size (parseAns xs).1.cells = V4 at *
              have h78 : Below V3.heap.size V3 V4 := B11.out.trans (hm.1.mono B11.out.size)
              generalize w11.heap.size = p4 at *
              have GX : Hid (RefG Wr V4 g) := Lib.hid (X3.out.2.1.trans (RefG.of_below h78))
              have r1 := rq_row (row_on X3.out.2.2.2.1 h78) (Below.refl _ _)
              have r2 := rq_row (row_on X3.out.2.2.2.2.1 h78) (Below.refl _ _)
              have r3 := an_row (row_on X3.out.2.2.2.2.2 h78) (Below.refl _ _)
              have r4 := an_row hm.2.1 (Below.refl _ _)
              generalize parseAns xs = pa at *
              obtain ⟨Aw, ae⟩ := pa
              generalize (parseReqC xs).2 = pe at *
              have l1 := r1.1
              have m1 := r1.2
              have l2 := r2.1
              have m2 := r2.2
              have l3 := r3.1
              have m3 := r3.2
              have l4 := r4.1
              have m4 := r4.2
              have enq : ∀ (q : ReqD) (w' : World), (binOp .neq 25 (.agg q.cells) (.agg q.cells)).run Try.prog w' = .ok (.bool false) w' := neq_req
              have ena : ∀ (q : AnsD) (w' : World), (binOp .neq 38 (.agg q.cells) (.agg q.cells)).run Try.prog w' = .ok (.bool false) w' := neq_ansR
              clear r1 r2 r3 r4 hm h78 B11 X3
              go_wp2
              go_roundg gk1
              case measure => omega
              case rel => exact ⟨k + 1, by have := HKG.out; omega, by first | rfl | go_num, HNX.out _ GX.out⟩
        | succ gj =>
          have q1 : (j : Int) < (n2 : Int) := by have := HMM.out; omega
          have q2 : (j : Int) < (n3 : Int) := by have := HMM.out; omega
          have q3 : (j : Int) < 3 := by have := HMM.out; omega
          have HJG := Lib.hid hjg
          clear hjg hcell
          have BY : Hid (Below w.heap.size w wy) := Lib.hid (below_refG HBW.out (Nat.le_refl _) HY.out.2.2 HO.out.2.1)
          obtain ⟨n, hn⟩ : ∃ n, ns[j]? = some n := ⟨_, List.getElem?_eq_getElem (by have := HA2.out.1; omega)⟩
          obtain ⟨y, hy⟩ : ∃ y, ys[j]? = some y := ⟨_, List.getElem?_eq_getElem (by have := HB2.out.1; omega)⟩
          obtain ⟨aA, cA, hvA, hxA⟩ := HA2.out.2
          obtain ⟨hnw, ba, oa, haA, hba, hcA⟩ := hxA j n hn
          obtain rfl : A2 = some ⟨ba, oa, none⟩ := by injection hvA with h1 h2 h3; rw [h1, haA]
          rcases HB2.out.2 with ⟨_, h0⟩ | ⟨bb, ob2, cb, hvB, hcb, hbb, hxB⟩
          · rw [h0] at hy; cases hy
          obtain rfl : B2 = some ⟨bb, ob2, none⟩ := by injection hvB
          have hcB := hxB j y hy
          obtain ⟨i, hi⟩ : ∃ i : Nat, n % (N : Int) = (i : Int) := ⟨(n % (N : Int)).toNat, by have := Int.emod_nonneg n (show (N : Int) ≠ 0 by have := HZ.out; omega); omega⟩
          have hiN : i < N := by have := Int.emod_lt_of_pos n (show (0 : Int) < (N : Int) by have := HZ.out; omega); omega
          have HW : Hid ((0 : Int) < (N : Int) ∧ (N : Int) ≤ 1000000 ∧ (Lit.int .i64 n).wf = true ∧ n % (N : Int) = (i : Int)) := Lib.hid ⟨by have := HZ.out; omega, by have := HZ.out; omega, hnw, hi⟩
          have hl := ownB_lt HY.out.2.1
          obtain ⟨zi, hzi⟩ : ∃ zi, zy[i]? = some zi := ⟨_, List.getElem?_eq_getElem (by rw [HY.out.1]; exact hiN)⟩
          have hcT : wy.cell? ⟨g, i, none⟩ = some (.int .u8 (zi.toNat : Int)) := by
            have hr : Reads wy (.slice (some ⟨g, 0, none⟩) N c) zy := Reads.of_own HY.out.2.1
            rcases hr with ⟨h, _⟩ | ⟨b, o, c', h, _, _, hx⟩
            · cases h
            · injection h with h1 h2 h3
              injection h1 with h1
              injection h1 with h1 h2 h3
              subst h1 h2
              have := hx i zi hzi
              rwa [Nat.zero_add] at this
          have kA : ∀ w', Below wy.heap.size wy w' → w'.cell? ⟨ba, oa + j, none⟩ = some (.int .i64 n) := fun w' hB => (hB.cell (p := ⟨ba, oa + j, none⟩) (Nat.lt_of_lt_of_le hba BY.out.size)).trans ((BY.out.cell (p := ⟨ba, oa + j, none⟩) hba).trans hcA)
          have kB : ∀ w', Below wy.heap.size wy w' → w'.cell? ⟨bb, ob2 + j, none⟩ = some (.int .u8 (y.toNat : Int)) := fun w' hB => (hB.cell (p := ⟨bb, ob2 + j, none⟩) (Nat.lt_of_lt_of_le hbb BY.out.size)).trans ((BY.out.cell (p := ⟨bb, ob2 + j, none⟩) hbb).trans hcB)
          have kT : ∀ w', Below wy.heap.size wy w' → w'.cell? ⟨g, i, none⟩ = some (.int .u8 (zi.toNat : Int)) := fun w' hB => (hB.cell (p := ⟨g, i, none⟩) hl.2.1).trans hcT
          have kF : ∀ w', Below wy.heap.size wy w' → w'.frozen? ⟨g, i, none⟩ = false := fun w' hB => (hB.frozen (p := ⟨g, i, none⟩) hl.2.1).trans (hl.2.2.1 i)
          have hiN' : (i : Int) < (N : Int) := by omega
          have HL2 : Hid (g < wy.heap.size) := Lib.hid hl.2.1
          clear hcT hl hzi hi hxA hxB hvA hvB hba hbb hcA hcB haA hn hy hnw hcb
          go_upto_region 14 with (fail)
          refine wp_region_anyL (S := (fun w' => Below wy.heap.size wy w')) 16 (by kernel_rfl) (bl_drewN3 (Below.refl _ _) 1) (fun hHeld => ?_)
          have qS := hHeld
          clear hHeld
          refine anyL_take (i := 0) (oi := { dst := some 91, op := Op.move (.tmp 17), type := 28, pos := "law.go:91", after := #[], guard := none }) (v := ?_) rfl (by kernel_rfl) (by kernel_rfl) (by kernel_rfl) (fun _ _ _ h => h) (by kernel_rfl) (by kernel_rfl) (by kernel_rfl) (Or.inl ⟨by rfl, ?_⟩) qS ?_
          rotate_left
          · intro w hSw
            (try dsimp only at hSw)
            skip
            go_simp
            all_goals with_reducible rfl
          simp only [Act.put, List.setIfInBounds_toArray, List.set_cons_zero, List.set_cons_succ]
          refine anyL_take (i := 1) (oi := { dst := some 92, op := Op.move (.tmp 2), type := 68, pos := "law.go:91", after := #[], guard := none }) (v := ?_) rfl (by kernel_rfl) (by kernel_rfl) (by kernel_rfl) (fun _ _ _ h => h) (by kernel_rfl) (by kernel_rfl) (by kernel_rfl) (Or.inl ⟨by rfl, ?_⟩) qS ?_
          rotate_left
          · intro w hSw
            (try dsimp only at hSw)
            skip
            go_simp
            all_goals with_reducible rfl
          simp only [Act.put, List.setIfInBounds_toArray, List.set_cons_zero, List.set_cons_succ]
          refine anyL_take (i := 2) (oi := { dst := some 93, op := Op.move (.tmp 18), type := 3, pos := "law.go:91", after := #[], guard := none }) (v := ?_) rfl (by kernel_rfl) (by kernel_rfl) (by kernel_rfl) (fun _ _ _ h => h) (by kernel_rfl) (by kernel_rfl) (by kernel_rfl) (Or.inl ⟨by rfl, ?_⟩) qS ?_
          rotate_left
          · intro w hSw
            (try dsimp only at hSw)
            skip
            go_simp
            all_goals with_reducible rfl
          simp only [Act.put, List.setIfInBounds_toArray, List.set_cons_zero, List.set_cons_succ]
          refine anyL_take (i := 3) (oi := { dst := some 94, op := Op.indexAddr 68 (.tmp 92) (.tmp 93), type := 0, pos := "law.go:91", after := #[{ on := 1, ground := .data }, { on := 2, ground := .data }], guard := none }) (v := ?_) rfl (by kernel_rfl) (by kernel_rfl) (by kernel_rfl) (fun _ _ _ h => h) (by kernel_rfl) (by kernel_rfl) (by kernel_rfl) (Or.inl ⟨by rfl, ?_⟩) qS ?_
          rotate_left
          · intro w hSw
            (try dsimp only at hSw)
            skip
            go_simp
            all_goals with_reducible rfl
          simp only [Act.put, List.setIfInBounds_toArray, List.set_cons_zero, List.set_cons_succ]
          refine anyL_take (i := 4) (oi := { dst := some 95, op := Op.load 3 (.tmp 94), type := 3, pos := "law.go:91", after := #[{ on := 3, ground := .data }], guard := none }) (v := ?_) rfl (by kernel_rfl) (by kernel_rfl) (by kernel_rfl) (fun _ _ _ h => h) (by kernel_rfl) (by kernel_rfl) (by kernel_rfl) (Or.inl ⟨by rfl, ?_⟩) qS ?_
          rotate_left
          · intro w hSw
            (try dsimp only at hSw)
            skip
            go_simp
            all_goals with_reducible rfl
          simp only [Act.put, List.setIfInBounds_toArray, List.set_cons_zero, List.set_cons_succ]
          refine anyL_take (i := 5) (oi := { dst := some 96, op := Op.move (.tmp 17), type := 28, pos := "law.go:91", after := #[], guard := none }) (v := ?_) rfl (by kernel_rfl) (by kernel_rfl) (by kernel_rfl) (fun _ _ _ h => h) (by kernel_rfl) (by kernel_rfl) (by kernel_rfl) (Or.inl ⟨by rfl, ?_⟩) qS ?_
          rotate_left
          · intro w hSw
            (try dsimp only at hSw)
            skip
            go_simp
            all_goals with_reducible rfl
          simp only [Act.put, List.setIfInBounds_toArray, List.set_cons_zero, List.set_cons_succ]
          refine anyL_take (i := 6) (oi := { dst := some 97, op := Op.call { callee := Callee.builtin Builtin.len, args := #[.tmp 96], argTypes := #[28] }, type := 3, pos := "law.go:91", after := #[{ on := 5, ground := .data }], guard := none }) (v := ?_) rfl (by kernel_rfl) (by kernel_rfl) (by kernel_rfl) (fun _ _ _ h => h) (by kernel_rfl) (by kernel_rfl) (by kernel_rfl) (Or.inl ⟨by rfl, ?_⟩) qS ?_
          rotate_left
          · intro w hSw
            (try dsimp only at hSw)
            skip
            go_simp
            all_goals with_reducible rfl
          simp only [Act.put, List.setIfInBounds_toArray, List.set_cons_zero, List.set_cons_succ]
          refine anyL_take (i := 10) (oi := { dst := some 101, op := Op.move (.tmp 3), type := 28, pos := "law.go:91", after := #[], guard := none }) (v := ?_) rfl (by kernel_rfl) (by kernel_rfl) (by kernel_rfl) (fun _ _ _ h => h) (by kernel_rfl) (by kernel_rfl) (by kernel_rfl) (Or.inl ⟨by rfl, ?_⟩) qS ?_
          rotate_left
          · intro w hSw
            (try dsimp only at hSw)
            skip
            go_simp
            all_goals with_reducible rfl
          simp only [Act.put, List.setIfInBounds_toArray, List.set_cons_zero, List.set_cons_succ]
          refine anyL_take (i := 11) (oi := { dst := some 102, op := Op.move (.tmp 18), type := 3, pos := "law.go:91", after := #[], guard := none }) (v := ?_) rfl (by kernel_rfl) (by kernel_rfl) (by kernel_rfl) (fun _ _ _ h => h) (by kernel_rfl) (by kernel_rfl) (by kernel_rfl) (Or.inl ⟨by rfl, ?_⟩) qS ?_
          rotate_left
          · intro w hSw
            (try dsimp only at hSw)
            skip
            go_simp
            all_goals with_reducible rfl
          simp only [Act.put, List.setIfInBounds_toArray, List.set_cons_zero, List.set_cons_succ]
          refine anyL_take (i := 12) (oi := { dst := some 103, op := Op.indexAddr 28 (.tmp 101) (.tmp 102), type := 0, pos := "law.go:91", after := #[{ on := 10, ground := .data }, { on := 11, ground := .data }], guard := none }) (v := ?_) rfl (by kernel_rfl) (by kernel_rfl) (by kernel_rfl) (fun _ _ _ h => h) (by kernel_rfl) (by kernel_rfl) (by kernel_rfl) (Or.inl ⟨by rfl, ?_⟩) qS ?_
          rotate_left
          · intro w hSw
            (try dsimp only at hSw)
            skip
            go_simp
            all_goals with_reducible rfl
          simp only [Act.put, List.setIfInBounds_toArray, List.set_cons_zero, List.set_cons_succ]
          refine anyL_take (i := 13) (oi := { dst := some 104, op := Op.load 5 (.tmp 103), type := 5, pos := "law.go:91", after := #[{ on := 12, ground := .data }], guard := none }) (v := ?_) rfl (by kernel_rfl) (by kernel_rfl) (by kernel_rfl) (fun _ _ _ h => h) (by kernel_rfl) (by kernel_rfl) (by kernel_rfl) (Or.inl ⟨by rfl, ?_⟩) qS ?_
          rotate_left
          · intro w hSw
            (try dsimp only at hSw)
            skip
            go_simp
            all_goals with_reducible rfl
          simp only [Act.put, List.setIfInBounds_toArray, List.set_cons_zero, List.set_cons_succ]
          refine anyL_one (i := 7) (o := { dst := some 98, op := Op.call { callee := Callee.value (.func 14), args := #[.tmp 95, .tmp 97], argTypes := #[3, 3] }, type := 3, pos := "law.go:91", after := #[{ on := 4, ground := .data }, { on := 6, ground := .data }], guard := none }) (by kernel_rfl) rfl (fun K hK => ?_)
          go_simp
          go_at_call 14
          refine (l18_within _ _ _ HW.out.1 HW.out.2.1 HW.out.2.2.1).mono ?_
          rintro e w9 ⟨rfl, rfl⟩
          rw [HW.out.2.2.2]
          (try go_simp)
          refine hK.out _ _ (.inr qS) ?_
          clear hK K
          (try simp only [Act.put, List.setIfInBounds_toArray, List.set_cons_zero, List.set_cons_succ])
          have qS2 := qS
          clear qS
          have qS := qS2
          clear qS2
          refine anyL_take (i := 8) (oi := { dst := some 99, op := Op.indexAddr 28 (.tmp 91) (.tmp 98), type := 0, pos := "law.go:91", after := #[{ on := 0, ground := .data }, { on := 7, ground := .data }], guard := none }) (v := ?_) rfl (by kernel_rfl) (by kernel_rfl) (by kernel_rfl) (fun _ _ _ h => h) (by kernel_rfl) (by kernel_rfl) (by kernel_rfl) (Or.inl ⟨by rfl, ?_⟩) qS ?_
          rotate_left
          · intro w hSw
            (try dsimp only at hSw)
            skip
            go_simp
            all_goals with_reducible rfl
          simp only [Act.put, List.setIfInBounds_toArray, List.set_cons_zero, List.set_cons_succ]
          refine anyL_take (i := 9) (oi := { dst := some 100, op := Op.load 5 (.tmp 99), type := 5, pos := "law.go:91", after := #[{ on := 8, ground := .data }], guard := none }) (v := ?_) rfl (by kernel_rfl) (by kernel_rfl) (by kernel_rfl) (fun _ _ _ h => h) (by kernel_rfl) (by kernel_rfl) (by kernel_rfl) (Or.inl ⟨by rfl, ?_⟩) qS ?_
          rotate_left
          · intro w hSw
            (try dsimp only at hSw)
            skip
            go_simp
            all_goals with_reducible rfl
          simp only [Act.put, List.setIfInBounds_toArray, List.set_cons_zero, List.set_cons_succ]
          refine anyL_take (i := 14) (oi := { dst := some 105, op := Op.binOp BinOp.add 5 (.tmp 100) (.tmp 104) 5, type := 5, pos := "law.go:91", after := #[{ on := 9, ground := .data }, { on := 13, ground := .data }], guard := none }) (v := ?_) rfl (by kernel_rfl) (by kernel_rfl) (by kernel_rfl) (fun _ _ _ h => h) (by kernel_rfl) (by kernel_rfl) (by kernel_rfl) (Or.inl ⟨by rfl, ?_⟩) qS ?_
          rotate_left
          · intro w hSw
            (try dsimp only at hSw)
            skip
            go_simp
            all_goals with_reducible rfl
          simp only [Act.put, List.setIfInBounds_toArray, List.set_cons_zero, List.set_cons_succ]
          refine anyL_take (i := 15) (oi := { dst := some 106, op := Op.indexAddr 28 (.tmp 91) (.tmp 98), type := 0, pos := "law.go:91", after := #[{ on := 0, ground := .data }, { on := 7, ground := .data }, { on := 0, ground := .phase }, { on := 1, ground := .phase }, { on := 2, ground := .phase }, { on := 3, ground := .phase }, { on := 4, ground := .phase }, { on := 5, ground := .phase }, { on := 6, ground := .phase }, { on := 7, ground := .phase }, { on := 8, ground := .phase }, { on := 9, ground := .phase }, { on := 10, ground := .phase }, { on := 11, ground := .phase }, { on := 12, ground := .phase }, { on := 13, ground := .phase }, { on := 14, ground := .phase }], guard := none }) (v := ?_) rfl (by kernel_rfl) (by kernel_rfl) (by kernel_rfl) (fun _ _ _ h => h) (by kernel_rfl) (by kernel_rfl) (by kernel_rfl) (Or.inl ⟨by rfl, ?_⟩) qS ?_
          rotate_left
          · intro w hSw
            (try dsimp only at hSw)
            skip
            go_simp
            all_goals with_reducible rfl
          simp only [Act.put, List.setIfInBounds_toArray, List.set_cons_zero, List.set_cons_succ]
          refine anyL_one (i := 16) (o := { dst := none, op := Op.store 5 (.tmp 106) (.tmp 105), type := 0, pos := "law.go:91", after := #[{ on := 15, ground := .data }, { on := 14, ground := .data }, { on := 7, ground := .chain }, { on := 0, ground := .phase }, { on := 1, ground := .phase }, { on := 2, ground := .phase }, { on := 3, ground := .phase }, { on := 4, ground := .phase }, { on := 5, ground := .phase }, { on := 6, ground := .phase }, { on := 7, ground := .phase }, { on := 8, ground := .phase }, { on := 9, ground := .phase }, { on := 10, ground := .phase }, { on := 11, ground := .phase }, { on := 12, ground := .phase }, { on := 13, ground := .phase }, { on := 14, ground := .phase }], guard := none }) (by kernel_rfl) rfl (fun K hK => ?_)
          go_simp
          (try go_simp)
          refine hK.out _ _ (.inl (by kernel_rfl)) ?_
          clear hK K
          (try simp only [Act.put, List.setIfInBounds_toArray, List.set_cons_zero, List.set_cons_succ])
          refine anyL_done (by kernel_rfl) ?_ _
          go_wp2
          go_roundg gj
          case measure => have := HJG.out; omega
          case rel =>
            obtain ⟨j', zy', a1, a2, a3, a4, a5⟩ := ft_stored (w := w) (i := i) (m := m) (gk := gj) (j := j) (e := IntKind.u8.wrap ((zi.toNat : Int) + (y.toNat : Int))) (s := .int .i64 ((j : Int) + 1)) HY.out.2.1 HY.out.1 HY.out.2.2 (by have := HJG.out; omega) (wrap8 _) rfl
            exact ⟨j', zy', a1, a2, a3, a4, ⟨a5.os, a5.tape, a5.output, a5.size, a5.block⟩⟩
end Go.Proofs.Ytehkgcmdndehaaa
