/-
  The law PagerCommits: two lists beside a pager.
-/
import Derived.Test.YtjbomdhlfjcgmaaPgE
namespace Go.Proofs.Ytjbomdhlfjcgmaa
set_option linter.unusedSimpArgs false
set_option linter.unusedVariables false
open Go.RowKit

/-- Two lists beside a pager; the second is being made. -/
structure Hold2 (w0 w : World) (pb db : Nat) (F G : Nat → Prop) (D : DiskS) (S : PgS) (C : Comm) (v : Value) (ns : List Nat) (u : Value) (ms : List Nat) : Prop where
  one : HoldAt w0 w pb db F G D S C v ns
  two : HoldAt w0 w pb db F G D S C u ms
  dis : ∀ k, v.ownBlock = some k → u.ownBlock ≠ some k
theorem Hold2.start {w0 w : World} {pb db : Nat} {F G : Nat → Prop} {D : DiskS} {S : PgS} {C : Comm} {v : Value} {ns : List Nat} (h : HoldAt w0 w pb db F G D S C v ns) : Hold2 w0 w pb db F G D S C v ns (.slice none 0 0) [] :=
  ⟨h, ⟨h.up, IRow.nil _ _, fun k hk => by cases hk⟩, fun k _ hk => by cases hk⟩
theorem Hold2.turn {w0 w w' : World} {pb db : Nat} {F G F' G' : Nat → Prop} {D D' : DiskS} {S S' : PgS} {C C' : Comm} {v u : Value} {ns ms : List Nat} (h : Hold2 w0 w pb db F G D S C v ns u ms) (hu : UpB w0 w' pb db F' G' D' S' C') (hm : Moves (fun k => F k ∨ G k) (fun k => F' k ∨ G' k) w w') : Hold2 w0 w' pb db F' G' D' S' C' v ns u ms :=
  ⟨h.one.turn hu hm, h.two.turn hu hm, h.dis⟩
theorem Hold2.below {w0 w w' : World} {pb db : Nat} {F G : Nat → Prop} {D : DiskS} {S : PgS} {C : Comm} {v u : Value} {ns ms : List Nat} (h : Hold2 w0 w pb db F G D S C v ns u ms) (k : Below w.heap.size w w') : Hold2 w0 w' pb db F G D S C v ns u ms :=
  ⟨h.one.below k, h.two.below k, h.dis⟩
theorem Hold2.drewN {w0 w : World} {pb db : Nat} {F G : Nat → Prop} {D : DiskS} {S : PgS} {C : Comm} {v u : Value} {ns ms : List Nat} (h : Hold2 w0 w pb db F G D S C v ns u ms) (n : Nat) : Hold2 w0 (w.drewN n) pb db F G D S C v ns u ms :=
  ⟨h.one.drewN n, h.two.drewN n, h.dis⟩
theorem Hold2.more {w0 w w' : World} {pb db : Nat} {F G : Nat → Prop} {D : DiskS} {S : PgS} {C : Comm} {v u u' : Value} {ns ms : List Nat} (h : Hold2 w0 w pb db F G D S C v ns u ms) (n : Nat) (hr : IRow w' w0.heap.size u' ((ms.map fun n : Nat => (n : Int)) ++ [(n : Int)])) (ha : Appd w w' u u') : Hold2 w0 w' pb db F G D S C v ns u' (ms ++ [n]) := by
  have h2 := h.two.more n hr ha
  refine ⟨⟨h2.up, h.one.row.keeps ha.keeps (fun j hj => h.dis j hj), h.one.far⟩, h2, fun k hk hk2 => ?_⟩
  rcases ha.new with e | ⟨m, e, hm⟩
  · exact h.dis k hk (e.symm.trans hk2)
  · rw [e] at hk2
    cases hk2
    have := (h.one.row.blk _ hk).2
    omega

/-- The pages of the list being made: byte k, byte i. -/
def Pages2 (S : PgS) (C : Comm) (k : Nat) (ms : List Nat) : Prop := ∀ i n, ms[i]? = some n → nowP S C n = some [UInt8.ofNat k, UInt8.ofNat i]
theorem Pages2.more {S S' : PgS} {C : Comm} {k n : Nat} {ms : List Nat} (h : Pages2 S C k ms) (hn : n ∉ ms) (h2 : ∀ q, nowP S' C q = if q = n then some [UInt8.ofNat k, UInt8.ofNat ms.length] else nowP S C q) : Pages2 S' C k (ms ++ [n]) := by
  intro i q hq
  rw [h2]
  by_cases hi : i < ms.length
  · rw [List.getElem?_append_left hi] at hq
    have hqm : q ∈ ms := List.mem_of_getElem? hq
    rw [if_neg (fun e => hn (by rw [← e]; exact hqm))]
    exact h i q hq
  · rw [List.getElem?_append_right (by omega)] at hq
    have hi2 : i - ms.length = 0 := by
      have h := (List.getElem?_eq_some_iff.1 hq).1
      rw [List.length_singleton] at h
      omega
    rw [hi2] at hq
    have : n = q := by simpa using hq
    rw [if_pos this.symm, show i = ms.length by omega]
theorem Pages2.keep {S S' : PgS} {C C' : Comm} {k : Nat} {ms : List Nat} (h : Pages2 S C k ms) (h2 : ∀ n, n ∈ ms → nowP S' C' n = nowP S C n) : Pages2 S' C' k ms := fun i n hn => by
  rw [h2 n (List.mem_of_getElem? hn)]
  exact h i n hn
theorem two_reads (w : World) (x y : UInt8) (xi yi : Int) (hx : xi = (x.toNat : Int)) (hy : yi = (y.toNat : Int)) : Reads (w.alloc (.cells #[.int .u8 xi, .int .u8 yi] 5)) (.slice (some ⟨w.heap.size, 0, none⟩) 2 2) [x, y] := by
  subst hx
  subst hy
  refine .inr ⟨w.heap.size, 0, 2, rfl, Nat.le_refl _, by simp, fun i z hi => ?_⟩
  rw [Nat.zero_add, World.cell?_alloc_at _ _ _ _ rfl]
  match i, hi with
  | 0, hi => cases hi; rfl
  | 1, hi => cases hi; rfl

def CmAt (w0 wr : World) (k m pb db : Nat) (v : Value) (ns : List Nat) : Prop :=
  ∃ F G D S C, HoldAt w0 wr pb db F G D S C v ns ∧ AllMem S C ns ∧ (∀ n, S.fresh n = none) ∧ (∀ n, S.freed n = false) ∧ D.blocks = 128 ∧ C.seq = k ∧ D.writes ≤ 200 * k ∧ ns.length ≤ m
def MkAt (w0 wr : World) (k wn pb db : Nat) (v : Value) (ns : List Nat) (u : Value) (ms : List Nat) : Prop :=
  ∃ F G D S C, Hold2 w0 wr pb db F G D S C v ns u ms ∧ AllMem S C (ns ++ ms) ∧ Pages2 S C k ms ∧ S.left = 124 - (ns.length : Int) - ms.length ∧ cnt (fun k => (S.fresh k).isSome) S.blocks = ms.length ∧ D.blocks = 128 ∧ C.seq = k ∧ D.writes = wn
def FrAt (w0 wr : World) (k wn j pb db : Nat) (v : Value) (ns : List Nat) (u : Value) (ms : List Nat) : Prop :=
  ∃ F G D S C, Hold2 w0 wr pb db F G D S C v ns u ms ∧ AllMem S C (ns.drop j ++ ms) ∧ Pages2 S C k ms ∧ cnt (fun k => (S.fresh k).isSome) S.blocks ≤ ms.length ∧ D.blocks = 128 ∧ C.seq = k ∧ D.writes = wn

def RdAt (w0 wr : World) (k wq pb db : Nat) (v : Value) (ns : List Nat) (u : Value) (ms : List Nat) : Prop :=
  ∃ F G D S C, Hold2 w0 wr pb db F G D S C v ns u ms ∧ AllMem S C ms ∧ Pages2 S C k ms ∧ (∀ n, S.fresh n = none) ∧ (∀ n, S.freed n = false) ∧ D.blocks = 128 ∧ C.seq = k + 1 ∧ D.writes = wq

set_option maxHeartbeats 6400000 in
set_option maxRecDepth 100000 in
theorem pagerCommits_walk (x : Int) (hx : (Lit.int .i64 x).wf = true) (y : Int) (hy : (Lit.int .i64 y).wf = true) {w : World} : Calls Try.prog 8 #[.int .i64 x, .int .i64 y] w (fun e w' => e = .returned (.bool true) ∧ Below w.heap.size w w') := by
  have HW := Lib.hid (law3_within x 60 (by omega) (by omega) hx)
  have HY := Lib.hid (law3_within y 25 (by omega) (by omega) hy)
  clear hx hy
  go_enter Try.func8, Try.ntmps8
  go_upto_region 8 with (first
    | (go_at_call 9; go_must (refine (law3_known _).mono ?_; rintro e w1 ⟨rfl, hB⟩; have X1 := Lib.hid hB; clear hB))
    | (go_at_call 10; go_must (refine (ub_new 128 (by omega) (by omega) X1.out).mono ?_; rintro e w2 ⟨db, G, rfl, hd⟩; have X2 := Lib.hid hd; clear hd))
    | (go_at_call 11; go_must (refine (ub_open X2.out).mono ?_; rintro e w3 ⟨pb, F, rfl, hup⟩; have X3 := Lib.hid hup; clear hup))
    | (go_at_call 16; go_must (refine (HY.out _).mono ?_; rintro e w' ⟨r, hr, rfl, rfl⟩; have HR := Lib.hid hr; have hr' : (r : Int) < 25 := (by omega); clear hr)))
  obtain ⟨m, hm⟩ : ∃ m, m = 1 + r := ⟨_, rfl⟩
  have hmi : (1 : Int) + (r : Int) = (m : Int) := by omega
  have HM : Hid (1 ≤ m ∧ m ≤ 25) := Lib.hid (by have := HR.out; omega)
  have hm25 : (m : Int) ≤ 25 := by have := HM.out; omega
  rw [hmi]
  clear hm hmi
  have H3 : Hid (CmAt w w3 0 m pb db (.slice none 0 0) []) := Lib.hid ⟨F, G, _, _, _, ⟨X3.out, IRow.nil _ _, fun k hk => by cases hk⟩, AllMem.start, fun _ => rfl, fun _ => rfl, rfl, rfl, Nat.le_refl _, Nat.zero_le _⟩
  go_upto_region 10 with (fail)
  go_loopg [9, 10, 11, 12, 13, 14, 15, 16, 17, 18, 19] 65 (fun g s9 s10 s11 s12 s13 s14 s15 s16 s17 s18 s19 wr => ∃ (k o : Nat) (a : Option Addr) (c : Nat) (ns : List Nat), k + g = 65 ∧ ns.length = o ∧ s10 = .int .i64 k ∧ s9 = .slice a o c ∧ CmAt w wr k m pb db (.slice a o c) ns)
  case atStart => exact ⟨0, 0, none, 0, [], rfl, rfl, rfl, rfl, H3.out⟩
  case round =>
    obtain ⟨k, o, a9, c9, ns, hkg, hol, rfl, rfl, hC⟩ := hrel
    have HK := Lib.hid (And.intro hkg (And.intro hol hC))
    have hk65 : (k : Int) ≤ 65 := by omega
    clear hkg hol hC
    go_upto_region 10 with (fail)
    go_upto_region 11 with (go_at_call 16; go_must (refine (HW.out _).mono ?_; rintro e w' ⟨r2, hr2, rfl, rfl⟩; have HR2 := Lib.hid hr2; have hr2' : (r2 : Int) < 60 := (by omega); clear hr2))
    · obtain ⟨F4, G4, D4, S4, C4, hold, hall, hfr, hfd, hD, hseq, hwn, hlm⟩ := HK.out.2.2
      have HC := Lib.hid (And.intro hold (And.intro hall (And.intro hfr (And.intro hfd (And.intro hD (And.intro hseq (And.intro hwn hlm)))))))
      obtain ⟨wn, hwn2⟩ : ∃ wn, wn = D4.writes := ⟨_, rfl⟩
      have hkk := HK.out.1
      have hwb : wn ≤ 13000 := Nat.le_trans (by rw [hwn2]; exact hwn) (Nat.le_trans (Nat.mul_le_mul_left 200 (show k ≤ 65 by omega)) (by decide))
      have hwr : wrap64 (D4.writes : Int) = (wn : Int) := by
        rw [← hwn2, IntWalk.wrap64_in (wn : Int) (by clear hwn hwn2; omega)]
      have HWN := Lib.hid (And.intro hwr (And.intro hwn2 hwb))
      clear hwb
      have HKK : Hid (k < 65) := Lib.hid (by
        have h1 : (k : Int) < 5 + (r2 : Int) := by assumption
        have := HR2.out
        omega)
      have H5 : Hid (MkAt w wr k wn pb db (.slice a9 o c9) ns (.slice none 0 0) []) := Lib.hid ⟨F4, G4, D4, S4, C4, Hold2.start hold, by rw [List.append_nil]; exact hall, fun i n hn => by simp at hn, by
        have := hall.left hold.up.up.inv hfr hfd
        rw [this, hD]
        show ((128 : Nat) : Int) - (4 : Nat) - ns.length = _
        simp only [List.length_nil]
        omega, by rw [cnt_none (p := fun k => (S4.fresh k).isSome) _ (fun n _ => by rw [hfr]; rfl)]; rfl, hD, hseq, hwn2.symm⟩
      have HOL : Hid (ns.length = o ∧ o ≤ m) := Lib.hid ⟨HK.out.2.1, by have := HK.out.2.1; omega⟩
      clear hold hall hfr hfd hD hseq hwn hlm hkk hwr hwn2
      have hkm : (k : Int) < 65 := by have := HKK.out; omega
      have hk0 : (0 : Int) ≤ (k : Int) := by omega
      have HZ : Hid ((k : Int) = ((UInt8.ofNat k).toNat : Int)) := Lib.hid (by rw [UInt8.toNat_ofNat']; omega)
      go_upto_region 15 with (go_at_call 27; go_must (refine (dk_writes HC.out.1.up.up.on.dk).mono ?_; rw [HWN.out.1]; rintro e w' ⟨rfl, rfl⟩))
      go_loopg [12, 13, 14, 15] m (fun g s12 s13 s14 s15 wr => ∃ (i : Nat) (a : Option Addr) (c : Nat) (ms : List Nat), i + g = m ∧ ms.length = i ∧ s13 = .int .i64 i ∧ s12 = .slice a i c ∧ MkAt w wr k wn pb db (.slice a9 o c9) ns (.slice a i c) ms)
      case atStart => exact ⟨0, none, 0, [], by omega, rfl, rfl, rfl, H5.out⟩
      case round =>
        obtain ⟨i, a12, c12, ms, hig, hil, rfl, rfl, hMk⟩ := hrel
        obtain ⟨F5, G5, D5, S5, C5, hold5, hall5, hpg5, hleft5, hcn5, hD5, hs5, hw5⟩ := hMk
        have HA := Lib.hid (And.intro hold5 (And.intro hall5 (And.intro hpg5 (And.intro hleft5 (And.intro hcn5 (And.intro hD5 (And.intro hs5 (And.intro hw5 (And.intro hig hil)))))))))
        have hi25 : (i : Int) ≤ 25 := by have := HM.out; omega
        have hi0 : (0 : Int) ≤ (i : Int) := by omega
        obtain ⟨wB, rfl⟩ : ∃ x : World, x = wr := ⟨_, rfl⟩
        cases gk with
        | succ g =>
          have him : (i : Int) < (m : Int) := by omega
          have HL0 : Hid (S5.left ≠ 0) := Lib.hid (by rw [hleft5]; have := HOL.out; have := HM.out; omega)
          have HZI : Hid ((i : Int) = ((UInt8.ofNat i).toNat : Int)) := Lib.hid (by rw [UInt8.toNat_ofNat']; omega)
          clear hold5 hall5 hpg5 hleft5 hcn5 hD5 hs5 hw5 hig hil
          go_upto_region 20 with (go_at_call 12; go_must (refine (ub_alloc ((HA.out.1.below (below_any wB _)).one.up) _ [UInt8.ofNat k, UInt8.ofNat i] (two_reads wB _ _ _ _ HZ.out HZI.out) (by simp) (fun q hq => (ub_new_block HA.out.1.one.up 2 2 q hq).1) HL0.out).mono ?_; rintro e w6 ⟨n, S6, F6, rfl, hup, hfacts, hmv⟩; have X6 := Lib.hid (And.intro ((HA.out.1.below (below_any wB _)).turn hup hmv.left) hfacts); clear hup hfacts hmv))
          go_wp2_with (at_builtin; go_must (refine wpList_append_int rfl (.tmp 62) (.tmp 64) rfl w6 w.heap.size (.slice a12 i c12) (ms.map fun n : Nat => (n : Int)) (n : Int) rfl X6.out.1.two.row X6.out.1.one.up.bel.size rfl (by rw [List.length_map, HA.out.2.2.2.2.2.2.2.2.2]; have := hi25; omega) ?_; intro g7 c7 w7 hrow hap; rw [List.length_map, HA.out.2.2.2.2.2.2.2.2.2] at hrow hap ⊢; have X7 := Lib.hid (X6.out.1.more n hrow hap); clear hrow hap))
          go_roundg g
          case measure => omega
          case rel =>
            have hq := X6.out.2
            have hil := HA.out.2.2.2.2.2.2.2.2.2
            have hnm : n ∉ ms := fun h => (HA.out.2.1.mem n).2 (List.mem_append_right _ h) hq.2.2.1
            refine ⟨i + 1, _, _, ms ++ [n], by have := HA.out.2.2.2.2.2.2.2.2.1; omega, by rw [List.length_append, hil]; rfl, by simp, rfl, F6, G5, D5, S6, C5, X7.out, ?_, ?_, ?_, ?_, HA.out.2.2.2.2.2.1, HA.out.2.2.2.2.2.2.1, HA.out.2.2.2.2.2.2.2.1⟩
            · have := HA.out.2.1.more hq.2.2.1 hq.2.2.2.2.1
              rwa [List.append_assoc] at this
            · exact HA.out.2.2.1.more hnm (by rw [hil]; exact hq.2.2.2.2.1)
            · rw [hq.2.2.2.2.2.1, HA.out.2.2.2.1, List.length_append]
              simp only [List.length_singleton]
              omega
            · rw [hq.2.2.2.2.2.2.2, HA.out.2.2.2.2.1, List.length_append]
              rfl
        | zero =>
          have him : ¬ (i : Int) < (m : Int) := by omega
          have himm : i = m := by omega
          subst himm
          clear hold5 hall5 hpg5 hleft5 hcn5 hD5 hs5 hw5 hig hil
          go_upto_region 22 with (fail)
          have HF0 : Hid (FrAt w wB k wn 0 pb db (.slice a9 o c9) ns (.slice a12 i c12) ms) := Lib.hid ⟨F5, G5, D5, S5, C5, HA.out.1, by rw [List.drop_zero]; exact HA.out.2.1, HA.out.2.2.1, Nat.le_of_eq HA.out.2.2.2.2.1, HA.out.2.2.2.2.2.1, HA.out.2.2.2.2.2.2.1, HA.out.2.2.2.2.2.2.2.1⟩
          have hml := HA.out.2.2.2.2.2.2.2.2.2
          have HML := Lib.hid (And.intro hml HM.out)
          have ho25 : (o : Int) ≤ 25 := by have := HOL.out; omega
          clear hml
          go_loopg [16] o (fun g s16 wr => ∃ (j : Nat), j + g = o ∧ s16 = .int .i64 j ∧ FrAt w wr k wn j pb db (.slice a9 o c9) ns (.slice a12 i c12) ms)
          case atStart => exact ⟨0, by omega, rfl, HF0.out⟩
          case round =>
            obtain ⟨j, hjg, rfl, F6, G6, D6, S6, C6, hold6, hall6, hpg6, hcn6, hD6, hs6, hw6⟩ := hrel
            have HB := Lib.hid (And.intro hold6 (And.intro hall6 (And.intro hpg6 (And.intro hcn6 (And.intro hD6 (And.intro hs6 (And.intro hw6 hjg)))))))
            obtain ⟨wC, rfl⟩ : ∃ x : World, x = wr := ⟨_, rfl⟩
            cases gk with
            | succ g =>
              have hj : (j : Int) < (o : Int) := by omega
              have hj0 : (0 : Int) ≤ (j : Int) := by omega
              obtain ⟨n, hn⟩ : ∃ n, ns[j]? = some n := ⟨_, List.getElem?_eq_getElem (by have := HOL.out; omega)⟩
              have hdr : ns.drop j = n :: ns.drop (j + 1) := by
                obtain ⟨h1, h2⟩ := List.getElem?_eq_some_iff.1 hn
                rw [List.drop_eq_getElem_cons h1, h2]
              obtain ⟨g9, e9, hc9⟩ := hold6.one.row.form2 (by rw [List.length_map]; have := HOL.out; omega)
              subst e9
              have kc := hc9 j n (by rw [List.getElem?_map, hn]; rfl)
              have hm := hall6
              rw [hdr, List.cons_append] at hm
              obtain ⟨zs, hzs⟩ := Option.ne_none_iff_exists'.1 ((hm.mem n).2 (List.mem_cons_self ..))
              have HMM := Lib.hid (And.intro hm hzs)
              clear hold6 hall6 hpg6 hcn6 hD6 hs6 hw6 hjg hn hdr hc9 hm hzs
              go_wp2_with (go_at_call 21; go_must (refine (ub_free HB.out.1.one.up n zs HMM.out.2).mono ?_; rintro e w9 ⟨rfl, hup, hk9⟩; have X9 := Lib.hid (HB.out.1.turn hup (Moves.of_keeps hk9).left); clear hup hk9))
              go_roundg g
              case measure => omega
              case rel =>
                obtain ⟨_, _, f3, _, f5⟩ := free_yes HB.out.1.one.up.up.inv HMM.out.2
                refine ⟨j + 1, by have := HB.out.2.2.2.2.2.2.2; omega, by simp, _, _, _, _, _, X9.out, HMM.out.1.free f3, HB.out.2.2.1.keep (fun q hq => by
                  rw [f3, if_neg]
                  intro e
                  subst e
                  exact (List.nodup_cons.1 HMM.out.1.nodup).1 (List.mem_append_right _ hq)), Nat.le_trans f5 HB.out.2.2.2.1, HB.out.2.2.2.2.1, HB.out.2.2.2.2.2.1, HB.out.2.2.2.2.2.2.1⟩
            | zero =>
              have hj : ¬ (j : Int) < (o : Int) := by omega
              clear hold6 hall6 hpg6 hcn6 hD6 hs6 hw6 hjg
              have HJ : Hid (j = o) := Lib.hid (by have := HB.out.2.2.2.2.2.2.2; omega)
              have HDN : Hid (AllMem (S6.done [UInt8.ofNat k]) (commC S6 C6 [UInt8.ofNat k]) ms) := Lib.hid (by
                have h := HB.out.2.1
                rw [HJ.out, List.drop_of_length_le (by have := HOL.out; omega), List.nil_append] at h
                exact h.done _)
              have HSQ : Hid ((((commC S6 C6 [UInt8.ofNat k]).seq : Nat) : Int) = (k : Int) + 1) := Lib.hid (by show ((C6.seq + 1 : Nat) : Int) = _; have := HB.out.2.2.2.2.2.1; omega)
              go_upto_region 26 with (fail)
              go_upto_region 28 with (first
                | (go_at_call 13; go_must (refine (ub_commit ((HB.out.1.below (below_any wC _)).one.up) _ _ [UInt8.ofNat k] (one_reads2 wC _ _ HZ.out) (by simp) (ub_one HB.out.1.one.up) (by have := HB.out.2.2.2.2.2.1; have := HKK.out; omega)).mono ?_; rintro e w9 ⟨F9, G9, D9, rfl, hup, hb9, hw9, hmv⟩; have X9 := Lib.hid (And.intro ((HB.out.1.below (below_any wC _)).turn hup hmv) (And.intro (hb9.trans HB.out.2.2.2.2.1) hw9)); obtain ⟨wq, hwq⟩ : ∃ wq, wq = D9.writes := ⟨_, rfl⟩; have HWQ : Hid (wq = D9.writes ∧ wq ≤ wn + i + 2) := Lib.hid ⟨hwq, by (have h1 := HB.out.2.2.2.1); (have h2 := HB.out.2.2.2.2.2.2.1); (have h3 : mapsN S6.blocks = 1 := (by rw [HB.out.1.one.up.up.inv.bl, HB.out.2.2.2.2.1]; decide)); (have h4 := HML.out.1); omega⟩; have HW9 : Hid (wrap64 (D9.writes : Int) = (wq : Int)) := Lib.hid (by rw [← HWQ.out.1, IntWalk.wrap64_in (wq : Int) (by (have h1 := HWQ.out.2); (have h2 := HWN.out.2.2); (have h3 := HML.out.2); omega)]); have hq9 : ¬ (i : Int) + 12 < (wq : Int) - (wn : Int) := (by (have h1 := HWQ.out.2); omega); have hq10 : (wq : Int) ≤ 14000 := (by (have h1 := HWQ.out.2); (have h2 := HWN.out.2.2); (have h3 := HML.out.2); omega); have hq11 : (wn : Int) ≤ 14000 := (by (have h2 := HWN.out.2.2); omega); obtain ⟨L9, hL9⟩ : ∃ L9, L9 = (S6.done [UInt8.ofNat k]).left := ⟨_, rfl⟩; have HL9 := Lib.hid hL9; have hl9 : L9 = 124 - (i : Int) := (by (have h := HDN.out.left X9.out.1.one.up.up.inv (fun _ => rfl) (fun _ => rfl)); rw [← hL9, X9.out.2.1, HML.out.1] at h; (have h2 : firstN 128 = 4 := (by decide)); rw [h2] at h; omega); have hq12 : ¬ L9 < 96 - (i : Int) := (by omega); clear hup hb9 hw9 hmv hwq hL9 hl9))
                | (go_at_call 27; go_must (refine (dk_writes X9.out.1.one.up.up.on.dk).mono ?_; rw [HW9.out]; rintro e w' ⟨rfl, rfl⟩))
                | (go_at_call 17; go_must (refine (up_seq X9.out.1.one.up.up).mono ?_; rw [HSQ.out]; rintro e w' ⟨rfl, rfl⟩))
                | (go_at_call 18; go_must (refine (ub_left X9.out.1.one.up).mono ?_; rw [← HL9.out]; rintro e w10 ⟨rfl, _, nd, hw⟩; have X10 : Hid (Hold2 w w10 pb db F9 G9 D9 (S6.done [UInt8.ofNat k]) (commC S6 C6 [UInt8.ofNat k]) (.slice a9 o c9) ns (.slice a12 i c12) ms) := Lib.hid (by rw [hw]; exact X9.out.1.drewN nd); clear hw)))
              have HR10 : Hid (RdAt w w10 k wq pb db (.slice a9 o c9) ns (.slice a12 i c12) ms) := Lib.hid ⟨F9, G9, D9, _, _, X10.out, HDN.out, HB.out.2.2.1.keep (fun n _ => done_now _ _ _ n), fun _ => rfl, fun _ => rfl, X9.out.2.1, by show C6.seq + 1 = k + 1; rw [HB.out.2.2.2.2.2.1], HWQ.out.1.symm⟩
              have HWL : Hid (wq ≤ 200 * (k + 1)) := Lib.hid (by
                have h1 := HWQ.out.2
                have h2 := HWN.out.2.1
                have h3 := HC.out.2.2.2.2.2.2.1
                have h4 := HML.out.2
                omega)
              clear hq9 hq10 hq11 hq12
              go_upto_region 29 with (fail)
              go_loopg [17, 18, 19] i (fun g s17 s18 s19 wr => ∃ (q : Nat), q + g = i ∧ s17 = .int .i64 q ∧ RdAt w wr k wq pb db (.slice a9 o c9) ns (.slice a12 i c12) ms)
              case atStart => exact ⟨0, by omega, rfl, HR10.out⟩
              case round =>
                obtain ⟨q, hqg, rfl, F8, G8, D8, S8, C8, hold8, hall8, hpg8, hf8, hfd8, hD8, hs8, hw8⟩ := hrel
                have HE := Lib.hid (And.intro hold8 (And.intro hall8 (And.intro hpg8 (And.intro hf8 (And.intro hfd8 (And.intro hD8 (And.intro hs8 (And.intro hw8 hqg))))))))
                obtain ⟨wD, rfl⟩ : ∃ x : World, x = wr := ⟨_, rfl⟩
                cases gk with
                | succ g =>
                  have hqi : (q : Int) < (i : Int) := by omega
                  have hq0 : (0 : Int) ≤ (q : Int) := by omega
                  have HZQ : Hid ((q : Int) = ((UInt8.ofNat q).toNat : Int)) := Lib.hid (by rw [UInt8.toNat_ofNat']; have := HML.out; omega)
                  obtain ⟨n, hn⟩ : ∃ n, ms[q]? = some n := ⟨_, List.getElem?_eq_getElem (by have := HML.out; omega)⟩
                  obtain ⟨g12, e12, hc12⟩ := hold8.two.row.form2 (by rw [List.length_map]; have := HML.out; omega)
                  subst e12
                  have kc := hc12 q n (by rw [List.getElem?_map, hn]; rfl)
                  have HNP := Lib.hid (hpg8 q n hn)
                  clear hold8 hall8 hpg8 hf8 hfd8 hD8 hs8 hw8 hn hc12
                  go_upto_region 32 with (go_at_call 14; go_must (refine (ub_read HE.out.1.one.up n [UInt8.ofNat k, UInt8.ofNat q] HNP.out).mono ?_; rintro e w13 ⟨a13, c13, rfl, hr13, _, hup, hk13⟩; have hcv1 : (convert 22 9 (.slice a13 2 c13)).run Try.prog w13 = .ok (.string ⟨#[UInt8.ofNat k, UInt8.ofNat q]⟩) w13 := run_string_of 22 9 5 Try.underlying22 Try.underlying5 Try.underlying9 hr13; have hcv2 : (convert 22 9 (.slice (some ⟨w13.heap.size, 0, none⟩) 2 2)).run Try.prog (w13.alloc (.cells #[.int .u8 (k : Int), .int .u8 (q : Int)] 5)) = .ok (.string ⟨#[UInt8.ofNat k, UInt8.ofNat q]⟩) (w13.alloc (.cells #[.int .u8 (k : Int), .int .u8 (q : Int)] 5)) := run_string_of 22 9 5 Try.underlying22 Try.underlying5 Try.underlying9 (two_reads w13 _ _ _ _ HZ.out HZQ.out); have X13 := Lib.hid ((HE.out.1.turn hup (Moves.of_keeps (hk13.mono (fun j _ e => by rw [e]; exact HE.out.1.one.up.up.on.pg.own))).left).below (below_any w13 (.cells #[.int .u8 (k : Int), .int .u8 (q : Int)] 5))); clear hr13 hup hk13))
                  have hi25' : (i : Int) ≤ 25 := by have := HML.out; omega
                  go_wp2
                  go_roundg g
                  case measure => omega
                  case rel => exact ⟨q + 1, by omega, by simp, _, _, _, _, _, X13.out, HE.out.2.1, HE.out.2.2.1, HE.out.2.2.2.1, HE.out.2.2.2.2.1, HE.out.2.2.2.2.2.1, HE.out.2.2.2.2.2.2.1, HE.out.2.2.2.2.2.2.2.1⟩
                | zero =>
                  have hqi : ¬ (q : Int) < (i : Int) := by omega
                  clear hold8 hall8 hpg8 hf8 hfd8 hD8 hs8 hw8
                  go_wp2
                  go_roundg (65 - (k + 1))
                  case measure => have := HK.out.1; omega
                  case rel => exact ⟨k + 1, i, _, _, ms, by have := HKK.out; omega, HML.out.1, by simp, rfl, F8, G8, D8, S8, C8, HE.out.1.two, HE.out.2.1, HE.out.2.2.2.1, HE.out.2.2.2.2.1, HE.out.2.2.2.2.2.1, HE.out.2.2.2.2.2.2.1, by rw [HE.out.2.2.2.2.2.2.2.1]; exact HWL.out, by rw [HML.out.1]; exact Nat.le_refl _⟩
    · go_ret
      obtain ⟨F4, G4, D4, S4, C4, hold, _⟩ := HK.out.2.2
      exact ⟨rfl, hold.up.bel⟩
end Go.Proofs.Ytjbomdhlfjcgmaa
