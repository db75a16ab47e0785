/-
  The law PagerFull.
-/
import Derived.Test.YtjbomdhlfjcgmaaPgV
namespace Go.Proofs.Ytjbomdhlfjcgmaa
set_option linter.unusedSimpArgs false
set_option linter.unusedVariables false
open Go.RowKit

theorem one_reads2 (w : World) (x : UInt8) (xi : Int) (hx : xi = (x.toNat : Int)) : Reads (w.alloc (.cells #[.int .u8 xi] 5)) (.slice (some ⟨w.heap.size, 0, none⟩) 1 1) [x] := by
  subst hx
  refine .inr ⟨w.heap.size, 0, 1, rfl, Nat.le_refl _, by simp, fun i y hi => ?_⟩
  rw [Nat.zero_add, World.cell?_alloc_at _ _ _ _ rfl]
  match i, hi with
  | 0, hi => cases hi; rfl

theorem conv_four (a b c d : Int) (w : World) : (convert 22 22 (.slice (some ⟨w.heap.size, 0, none⟩) 4 4)).run Try.prog (w.alloc (.cells #[.int .u8 a, .int .u8 b, .int .u8 c, .int .u8 d] 5)) =
    .ok (.slice (some ⟨w.heap.size, 0, none⟩) 4 4) (w.alloc (.cells #[.int .u8 a, .int .u8 b, .int .u8 c, .int .u8 d] 5 (4, 5))) := Lib.run_convert_bytes_const w _ _ _ 4 4 Try.underlying22 Try.underlying5
theorem four_reads (w : World) (a b c d : UInt8) : Reads (w.alloc (.cells #[.int .u8 a.toNat, .int .u8 b.toNat, .int .u8 c.toNat, .int .u8 d.toNat] 5 (4, 5))) (.slice (some ⟨w.heap.size, 0, none⟩) 4 4) [a, b, c, d] := by
  refine .inr ⟨w.heap.size, 0, 4, rfl, Nat.le_refl _, by simp, fun i y hi => ?_⟩
  rw [Nat.zero_add, World.cell?_alloc_mark]
  match i, hi with
  | 0, hi => cases hi; rfl
  | 1, hi => cases hi; rfl
  | 2, hi => cases hi; rfl
  | 3, hi => cases hi; rfl
theorem conv_three (a b c : Int) (w : World) : (convert 22 22 (.slice (some ⟨w.heap.size, 0, none⟩) 3 3)).run Try.prog (w.alloc (.cells #[.int .u8 a, .int .u8 b, .int .u8 c] 5)) =
    .ok (.slice (some ⟨w.heap.size, 0, none⟩) 3 3) (w.alloc (.cells #[.int .u8 a, .int .u8 b, .int .u8 c] 5 (3, 4))) := Lib.run_convert_bytes_const w _ _ _ 3 3 Try.underlying22 Try.underlying5
theorem three_reads (w : World) (a b c : UInt8) : Reads (w.alloc (.cells #[.int .u8 a.toNat, .int .u8 b.toNat, .int .u8 c.toNat] 5 (3, 4))) (.slice (some ⟨w.heap.size, 0, none⟩) 3 3) [a, b, c] := by
  refine .inr ⟨w.heap.size, 0, 3, rfl, Nat.le_refl _, by simp, fun i y hi => ?_⟩
  rw [Nat.zero_add, World.cell?_alloc_mark]
  match i, hi with
  | 0, hi => cases hi; rfl
  | 1, hi => cases hi; rfl
  | 2, hi => cases hi; rfl
theorem ub_new_block {w0 w : World} {pb db : Nat} {F G : Nat → Prop} {D : DiskS} {S : PgS} {C : Comm} (h : UpB w0 w pb db F G D S C) (n c : Nat) : ∀ k, (Value.slice (some ⟨w.heap.size, 0, none⟩) n c).ownBlock = some k → ¬ F k ∧ ¬ G k := fun k hk => by
  have e : w.heap.size = k := by simpa [Value.ownBlock] using hk
  exact ⟨fun hf => by have := h.up.on.pg.lim _ hf; omega, fun hf => by have := h.up.on.dk.lim _ hf; omega⟩
theorem IRow.form2 {w : World} {base : Nat} {a : Option Addr} {n c : Nat} {ks : List Int} (h : IRow w base (.slice a n c) ks) (h0 : 0 < ks.length) : ∃ g, a = some ⟨g, 0, none⟩ ∧ ∀ i x, ks[i]? = some x → w.cell? ⟨g, i, none⟩ = some (.int .i64 x) := by
  have h' := h
  rcases h.2 with ⟨_, hl⟩ | ⟨g, cap, cur, e, hg, hgg, rest⟩
  · omega
  · cases e
    refine ⟨g, rfl, fun i x hi => ?_⟩
    unfold IRow at h'
    have := h'.cells (g := g) rfl i (.int .i64 x) (by rw [List.getElem?_map, hi]; rfl)
    rwa [Addr.add_lit, Nat.zero_add] at this

/-- The law's list: all pages, with what room there is. -/
def FullAt (w0 w : World) (bl k : Nat) (pb db : Nat) (v : Value) (ns : List Nat) : Prop :=
  ∃ F G D S C, HoldAt w0 w pb db F G D S C v ns ∧ AllMem S C ns ∧ ns.length = k ∧ S.left = (bl : Int) - firstN bl - k ∧ D.blocks = bl ∧ C.seq ≤ k

set_option maxHeartbeats 6400000 in
set_option maxRecDepth 100000 in
theorem pagerFull_walk (x : Int) (hx : (Lit.int .i64 x).wf = true) (y : Int) (hy : (Lit.int .i64 y).wf = true) {w : World} : Calls Try.prog 5 #[.int .i64 x, .int .i64 y] w (fun e w' => e = .returned (.bool true) ∧ Below w.heap.size w w') := by
  have HW := Lib.hid (law3_within x 80 (by omega) (by omega) hx)
  have HY := Lib.hid hy
  clear hx hy
  go_enter Try.func5, Try.ntmps5
  go_upto_region 4 with (first
    | (go_at_call 9; go_must (refine (law3_known _).mono ?_; rintro e w1 ⟨rfl, hB⟩; have X1 := Lib.hid hB; clear hB))
    | (go_at_call 16; go_must (refine (HW.out _).mono ?_; rintro e w' ⟨r, hr, rfl, rfl⟩; have HR := Lib.hid hr; have hr' : (r : Int) < 80 := (by omega); clear hr)))
  have HN := ub_new (64 + r) (by omega) (by have := HR.out; omega) X1.out
  obtain ⟨bl, hbl⟩ : ∃ bl, bl = 64 + r := ⟨_, rfl⟩
  have hbi : (64 : Int) + (r : Int) = (bl : Int) := by omega
  have HBL : Hid (64 ≤ bl ∧ bl < 144) := Lib.hid (by have := HR.out; omega)
  rw [← hbl] at HN
  have HN' := Lib.hid HN
  rw [hbi]
  clear HN hbl
  go_wp2_with (first
      | (go_at_call 10; go_must (refine HN'.out.mono ?_; rintro e w2 ⟨db, G, rfl, hd⟩; have X2 := Lib.hid hd; clear hd))
      | (go_at_call 11; go_must (refine (ub_open X2.out).mono ?_; rintro e w3 ⟨pb, F, rfl, hup⟩; have X3 := Lib.hid hup; clear hup)))
  have H3 : Hid (FullAt w w3 bl 0 pb db (.slice none 0 0) []) := Lib.hid ⟨F, G, _, _, _, ⟨X3.out, IRow.nil _ _, fun k hk => by cases hk⟩, AllMem.start, rfl, by rw [left_new X3.out.up.inv]; show ((bl : Nat) : Int) - (firstN bl : Nat) = _; omega, rfl, Nat.le_refl _⟩
  have HFN : Hid (firstN bl ≤ 10) := Lib.hid (firstN_le (by have := HBL.out; omega))
  go_loopg [9, 10, 11, 12, 13] 300 (fun g s9 s10 s11 s12 s13 wr => ∃ (k : Nat) (a : Option Addr) (c : Nat) (ns : List Nat), k + g = 300 ∧ k + firstN bl ≤ bl ∧ s10 = .int .i64 k ∧ s9 = .slice a k c ∧ FullAt w wr bl k pb db (.slice a k c) ns)
  case atStart => exact ⟨0, none, 0, [], rfl, by have := HFN.out; have := HBL.out; omega, rfl, rfl, H3.out⟩
  case round =>
    obtain ⟨k, a9, c9, ns, hkg, hkb, rfl, rfl, hF⟩ := hrel
    obtain ⟨F4, G4, D4, S4, C4, hold, hall, hlen, hleft, hD, hseq⟩ := hF
    have HA := Lib.hid (And.intro hold (And.intro hall (And.intro hlen (And.intro hleft (And.intro hD (And.intro hseq (And.intro hkg hkb)))))))
    clear hold hall hlen hleft hD hseq
    have hk : (k : Int) < 300 := by have := HBL.out; omega
    have hk0 : (0 : Int) ≤ (k : Int) := by omega
    clear hkg hkb
    have HZ : Hid ((k : Int) % 256 = ((UInt8.ofNat k).toNat : Int)) := Lib.hid (by rw [UInt8.toNat_ofNat']; omega)
    obtain ⟨L, hL⟩ : ∃ L, L = S4.left := ⟨_, rfl⟩
    have HL := Lib.hid hL
    clear hL
    by_cases hfull : L = 0
    · have hq : ¬ (0 : Int) < L := by omega
      have HL0 := Lib.hid hfull
      clear hfull
      go_upto_region 16 with (first
        | (go_at_call 18; go_must (refine (ub_left HA.out.1.up).mono ?_; rw [← HL.out]; rintro e w5 ⟨rfl, hup, nd, hw⟩; have X5 : Hid (HoldAt w w5 pb db F4 G4 D4 S4 C4 (.slice a9 k c9) ns) := Lib.hid (by rw [hw]; exact HA.out.1.drewN nd); clear hup hw))
        | (go_at_call 12; go_must (refine (pg_alloc_full ((X5.out.below (below_any w5 _)).up.up.on) X5.out.up.up.inv.left_le X5.out.up.alive _ 1 1 (by omega) (HL.out.symm.trans HL0.out)).mono ?_; rintro e w6 ⟨rfl, nd2, hw⟩; have X6 : Hid (HoldAt w w6 pb db F4 G4 D4 S4 C4 (.slice a9 k c9) ns) := Lib.hid (by rw [hw]; exact (X5.out.below (below_any w5 _)).drewN nd2); clear hw)))
      have hkl : k + firstN bl = bl := by
        have h1 := HL.out
        have h2 := HA.out.2.2.2.1
        have h3 := HL0.out
        have h4 := HA.out.2.2.2.2.2.2.2
        omega
      have hq2 : ¬ (k : Int) < (bl : Int) - 32 := by have := HFN.out; omega
      have hkp : 0 < k := by have := HFN.out; have := HBL.out; omega
      have HK := Lib.hid (And.intro hkl hkp)
      have hcv4 := conv_four
      have hcv3 := conv_three
      have HWY := Lib.hid (law3_within y k hkp (by have := hk; omega) HY.out)
      clear hkl hkp
      go_upto_region 23 with (first
        | (go_at_call 13; go_must (refine (ub_commit ((X6.out.below (below_any w6 _)).up) _ _ [102, 117, 108, 108] (four_reads w6 102 117 108 108) (by decide) (ub_new_block X6.out.up 4 4) (by have := HA.out.2.2.2.2.2.1; have := hk; omega)).mono ?_; rintro e w7 ⟨F7, G7, D7, rfl, hup, hb7, _, hm⟩; have X7 : Hid (HoldAt w w7 pb db F7 G7 D7 (S4.done [102, 117, 108, 108]) (commC S4 C4 [102, 117, 108, 108]) (.slice a9 k c9) ns ∧ D7.blocks = bl) := Lib.hid ⟨(X6.out.below (below_any w6 _)).turn hup hm, hb7.trans HA.out.2.2.2.2.1⟩; clear hup hm hb7))
        | (go_at_call 16; go_must (refine (HWY.out _).mono ?_; rintro e w' ⟨r2, hr2, rfl, rfl⟩; have HR2 := Lib.hid hr2; have hr2' : (r2 : Int) < (k : Int) := (by omega); clear hr2)))
      obtain ⟨g9, rfl, _⟩ := X7.out.1.row.form2 (by rw [List.length_map, HA.out.2.2.1]; exact HK.out.2)
      have HG : Hid (∀ wr F G D S C, HoldAt w wr pb db F G D S C (.slice (some ⟨g9, 0, none⟩) k c9) ns → ∀ (j n : Nat), ns[j]? = some n → wr.cell? ⟨g9, j, none⟩ = some (.int .i64 n)) := Lib.hid (fun wr F G D S C h j n hj => by
        obtain ⟨g', e, hc⟩ := h.row.form2 (by rw [List.length_map, HA.out.2.2.1]; exact HK.out.2)
        cases e
        exact hc j n (by rw [List.getElem?_map, hj]; rfl))
      have H7 : Hid (AllMem (S4.done [102, 117, 108, 108]) (commC S4 C4 [102, 117, 108, 108]) ns) := Lib.hid (HA.out.2.1.done _)
      go_upto_region 24 with (fail)
      go_loopg [14] (r2 + 1) (fun g s14 wr => ∃ (j : Nat), j + g = r2 + 1 ∧ s14 = .int .i64 j ∧ ∃ F G D S C, HoldAt w wr pb db F G D S C (.slice (some ⟨g9, 0, none⟩) k c9) ns ∧ AllMem S C (ns.drop j) ∧ D.blocks = bl ∧ C.seq ≤ k + 1)
      case atStart => exact ⟨0, by omega, rfl, _, _, _, _, _, X7.out.1, by rw [List.drop_zero]; exact H7.out, X7.out.2, by show C4.seq + 1 ≤ k + 1; have := HA.out.2.2.2.2.2.1; omega⟩
      case round =>
        obtain ⟨j, hjg, rfl, F8, G8, D8, S8, C8, hold8, hall8, hD8, hs8⟩ := hrel
        have HB := Lib.hid (And.intro hold8 (And.intro hall8 (And.intro hD8 (And.intro hs8 hjg))))
        clear hold8 hall8 hD8 hs8
        obtain ⟨wB, rfl⟩ : ∃ x : World, x = wr := ⟨_, rfl⟩
        cases gk with
        | zero =>
          have hj : ¬ (j : Int) < 1 + (r2 : Int) := by omega
          have HJ : Hid (j = r2 + 1) := Lib.hid (by have := hjg; omega)
          clear hjg
          have HDN := Lib.hid (HB.out.2.1.done [108, 101, 115, 115])
          have hsq : C8.seq + 1 < 1000000000000000000 := by have := HB.out.2.2.2.1; have := hk; omega
          have HSQ := Lib.hid hsq
          clear hsq
          obtain ⟨L2, hL2⟩ : ∃ L2, L2 = (S8.done [108, 101, 115, 115]).left := ⟨_, rfl⟩
          have HL2 := Lib.hid hL2
          clear hL2
          go_upto_region 28 with (fail)
          have HLL : Hid (∀ D, D.blocks = bl → PgInv D (S8.done [108, 101, 115, 115]) (commC S8 C8 [108, 101, 115, 115]) → L2 = 1 + (r2 : Int)) := Lib.hid (fun D hb hi => by
            have h := HDN.out.left hi (fun _ => rfl) (fun _ => rfl)
            rw [← HL2.out, hb, HJ.out, List.length_drop, HA.out.2.2.1] at h
            have h1 := HK.out.1
            have h2 := HR2.out
            omega)
          have hl2 : ¬ (1 : Int) + (r2 : Int) < 1 + (r2 : Int) := by omega
          go_upto_region 30 with (first
            | (go_at_call 13; go_must (refine (ub_commit ((HB.out.1.below (below_any wB _)).up) _ _ [108, 101, 115, 115] (four_reads wB 108 101 115 115) (by decide) (ub_new_block HB.out.1.up 4 4) HSQ.out).mono ?_; rintro e w10 ⟨F10, G10, D10, rfl, hup, hb10, _, _⟩; have X10 := Lib.hid (And.intro hup (HLL.out _ (hb10.trans HB.out.2.2.1) hup.up.inv)); clear hup hb10))
            | (go_at_call 18; go_must (refine (ub_left X10.out.1).mono ?_; rw [← HL2.out, X10.out.2]; rintro e w11 ⟨rfl, hup, _⟩; have X11 := Lib.hid hup; clear hup)))
          have HL3 : Hid ((S8.done [108, 101, 115, 115]).left ≠ 0) := Lib.hid (by rw [← HL2.out, X10.out.2]; omega)
          go_upto_region 32 with (first
            | (go_at_call 12; go_must (refine (ub_alloc (X11.out.below (below_any w11 _)) _ [110, 101, 119] (three_reads w11 110 101 119) (by decide) (fun q hq => (ub_new_block X11.out 3 3 q hq).1) HL3.out).mono ?_; rintro e w12 ⟨n12, S12, F12, rfl, hup, hq, _⟩; have X12 := Lib.hid (And.intro hup (show nowP S12 _ n12 = some [110, 101, 119] by rw [hq.2.2.2.2.1, if_pos rfl])); clear hup hq))
            | (go_at_call 14; go_must (refine (ub_read X12.out.1 n12 [110, 101, 119] X12.out.2).mono ?_; rintro e w13 ⟨a13, c13, rfl, hr13, _, hup13, _⟩; have hc13 : (convert 22 9 (.slice a13 3 c13)).run Try.prog w13 = .ok (.string ⟨#[110, 101, 119]⟩) w13 := run_string_of 22 9 5 Try.underlying22 Try.underlying5 Try.underlying9 hr13; have X13 := Lib.hid hup13; clear hr13 hup13)))
          go_wp2
          go_ret
          exact ⟨rfl, X13.out.bel⟩
        | succ g =>
          have hj : (j : Int) < 1 + (r2 : Int) := by omega
          have hjk : j < k := by have := HR2.out; omega
          have hjk2 : (j : Int) < (k : Int) := by omega
          obtain ⟨n, hn⟩ : ∃ n, ns[j]? = some n := ⟨_, List.getElem?_eq_getElem (by rw [HA.out.2.2.1]; exact hjk)⟩
          have hdr : ns.drop j = n :: ns.drop (j + 1) := by
            obtain ⟨h1, h2⟩ := List.getElem?_eq_some_iff.1 hn
            rw [List.drop_eq_getElem_cons h1, h2]
          have kc := HG.out _ _ _ _ _ _ HB.out.1 j n hn
          have hm := HB.out.2.1
          rw [hdr] at hm
          obtain ⟨zs, hzs⟩ := Option.ne_none_iff_exists'.1 ((hm.mem n).2 (List.mem_cons_self ..))
          have HM := Lib.hid (And.intro hm hzs)
          clear hjg hn hdr hm hzs hjk
          go_wp2_with (go_at_call 21; go_must (refine (ub_free HB.out.1.up n zs HM.out.2).mono ?_; rintro e w9 ⟨rfl, hup, hk9⟩; have X9 : Hid (HoldAt w w9 pb db F8 G8 D8 (S8.free n).1 C8 (.slice (some ⟨g9, 0, none⟩) k c9) ns) := Lib.hid (HB.out.1.turn hup (Moves.of_keeps hk9).left); clear hup hk9))
          go_roundg g
          case measure => omega
          case rel =>
            obtain ⟨_, _, f3, _, _⟩ := free_yes HB.out.1.up.up.inv HM.out.2
            exact ⟨j + 1, by have := HB.out.2.2.2.2; omega, by simp, _, _, _, _, _, X9.out, HM.out.1.free f3, HB.out.2.2.1, HB.out.2.2.2.1⟩
    · have hp : 0 < L := by
        have h1 := HL.out
        have h2 := HA.out.2.2.2.1
        have h3 := HA.out.2.2.2.2.2.2.2
        omega
      have HL0 : Hid (S4.left ≠ 0) := Lib.hid (by rw [← HL.out]; exact hfull)
      clear hfull
      go_upto_region 17 with (first
        | (go_at_call 18; go_must (refine (ub_left HA.out.1.up).mono ?_; rw [← HL.out]; rintro e w5 ⟨rfl, hup, nd, hw⟩; have X5 : Hid (HoldAt w w5 pb db F4 G4 D4 S4 C4 (.slice a9 k c9) ns) := Lib.hid (by rw [hw]; exact HA.out.1.drewN nd); clear hup hw))
        | (go_at_call 12; go_must (refine (ub_alloc ((X5.out.below (below_any w5 _)).up) _ [UInt8.ofNat k] (one_reads2 w5 _ _ HZ.out) (by simp) (fun q hq => (ub_one X5.out.up q hq).1) HL0.out).mono ?_; rintro e w6 ⟨n, S6, F6, rfl, hup, hfacts, hm⟩; have X6 : Hid (HoldAt w w6 pb db F6 G4 D4 S6 C4 (.slice a9 k c9) ns ∧ AllMem S6 C4 (ns ++ [n]) ∧ S6.left = S4.left - 1) := Lib.hid ⟨(X5.out.below (below_any w5 _)).turn hup hm.left, HA.out.2.1.more hfacts.2.2.1 hfacts.2.2.2.2.1, hfacts.2.2.2.2.2.1⟩; clear hup hfacts hm)))
      go_upto_region 18 with (at_builtin; go_must (refine wpList_append_int rfl (.tmp 57) (.tmp 59) rfl w6 w.heap.size (.slice a9 k c9) (ns.map fun n : Nat => (n : Int)) (n : Int) rfl X6.out.1.row X6.out.1.up.bel.size rfl (by rw [List.length_map, HA.out.2.2.1]; have := hk; omega) ?_; intro g7 c7 w7 hrow hap; rw [List.length_map, HA.out.2.2.1] at hrow hap ⊢; have X7 : Hid (HoldAt w w7 pb db F6 G4 D4 S6 C4 (.slice (some ⟨g7, 0, none⟩) (k + 1) c7) (ns ++ [n])) := Lib.hid (X6.out.1.more n hrow hap); clear hrow hap))
      have F7 : Hid ((ns ++ [n]).length = k + 1 ∧ S6.left = (bl : Int) - firstN bl - (k + 1 : Nat) ∧ k + 1 + firstN bl ≤ bl) := Lib.hid ⟨by rw [List.length_append, HA.out.2.2.1]; rfl, by have := X6.out.2.2; have := HA.out.2.2.2.1; omega, by have := HL.out; have := HA.out.2.2.2.1; omega⟩
      by_cases h9 : k % 9 = 8
      · have h9' : (k : Int) % 9 = 8 := by omega
        clear h9
        go_wp2_with (go_at_call 13; go_must (refine (ub_commit ((X7.out.below (below_any w7 _)).up) _ _ [UInt8.ofNat k] (one_reads2 w7 _ _ HZ.out) (by simp) (ub_one X7.out.up) (by have := HA.out.2.2.2.2.2.1; have := hk; omega)).mono ?_; rintro e w8 ⟨F8, G8, D8, rfl, hup, hb8, _, hm⟩; have X8 : Hid (HoldAt w w8 pb db F8 G8 D8 (S6.done [UInt8.ofNat k]) (commC S6 C4 [UInt8.ofNat k]) (.slice (some ⟨g7, 0, none⟩) (k + 1) c7) (ns ++ [n]) ∧ D8.blocks = bl) := Lib.hid ⟨(X7.out.below (below_any w7 _)).turn hup hm, hb8.trans HA.out.2.2.2.2.1⟩; clear hup hm hb8))
        go_roundg (300 - (k + 1))
        case measure => have := HA.out.2.2.2.2.2.2.1; omega
        case rel =>
          have hd := X6.out.2.1.done [UInt8.ofNat k]
          refine ⟨k + 1, _, _, ns ++ [n], by have := hk; omega, F7.out.2.2, by simp, rfl, F8, G8, D8, _, _, X8.out.1, hd, F7.out.1, ?_, X8.out.2, ?_⟩
          · have := hd.left X8.out.1.up.up.inv (fun _ => rfl) (fun _ => rfl)
            rw [this, X8.out.2, F7.out.1]
          · show C4.seq + 1 ≤ k + 1
            have := HA.out.2.2.2.2.2.1
            omega
      · have h9' : ¬ (k : Int) % 9 = 8 := by omega
        clear h9
        go_wp2
        go_roundg (300 - (k + 1))
        case measure => have := HA.out.2.2.2.2.2.2.1; omega
        case rel =>
          refine ⟨k + 1, _, _, ns ++ [n], by have := hk; omega, F7.out.2.2, by simp, rfl, F6, G4, D4, _, _, X7.out, X6.out.2.1, F7.out.1, F7.out.2.1, HA.out.2.2.2.2.1, ?_⟩
          have := HA.out.2.2.2.2.2.1
          omega
end Go.Proofs.Ytjbomdhlfjcgmaa
