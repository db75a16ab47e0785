/-
  package pager: lay, walked.
-/
import Derived.Test.YtjbomdhlfjcgmaaPgL
import Derived.Deep.LoopGhost
import Derived.RegionTactic
import Derived.Lib.SlBytesConst
import Derived.Lib.SmallJoins
namespace Go.Proofs.Ytjbomdhlfjcgmaa
set_option linter.unusedSimpArgs false
set_option linter.unusedVariables false
open Go.RowKit
open Go.Joins (cell_alloc_mark_at)

/-- The word's literal, as the run lays it. -/
def wordC : Array Value := #[.int .u8 116, .int .u8 111, .int .u8 108, .int .u8 108, .int .u8 114, .int .u8 111, .int .u8 111, .int .u8 116]
theorem conv_word (w : World) : (convert 22 22 (.slice (some ⟨w.heap.size, 0, none⟩) 8 8)).run Try.prog (w.alloc (.cells #[.int .u8 116, .int .u8 111, .int .u8 108, .int .u8 108, .int .u8 114, .int .u8 111, .int .u8 111, .int .u8 116] 5)) =
    .ok (.slice (some ⟨w.heap.size, 0, none⟩) 8 8) (w.alloc (.cells wordC 5 (8, 9))) := Lib.run_convert_bytes_const w _ _ _ 8 8 Try.underlying22 Try.underlying5
theorem word_reads (w : World) : Reads (w.alloc (.cells wordC 5 (8, 9))) (.slice (some ⟨w.heap.size, 0, none⟩) 8 8) wordB := by
  refine .inr ⟨w.heap.size, 0, 8, rfl, Nat.le_refl _, by simp, fun i x hi => ?_⟩
  rw [Nat.zero_add, cell_alloc_mark_at _ _ _ _ _ _ rfl]
  match i, hi with
  | 0, hi => cases hi; rfl
  | 1, hi => cases hi; rfl
  | 2, hi => cases hi; rfl
  | 3, hi => cases hi; rfl
  | 4, hi => cases hi; rfl
  | 5, hi => cases hi; rfl
  | 6, hi => cases hi; rfl
  | 7, hi => cases hi; rfl
  | n + 8, hi => simp [wordB] at hi
/-- What a commit writes, in order. -/
def layA (S : PgS) : List (Nat × List UInt8) := (keysOf S.fresh S.blocks).map fun n => (n, pageB ((S.fresh n).getD []))
def layB (S : PgS) (tk : Nat → Bool) : List (Nat × List UInt8) := (List.range (mapsN S.blocks)).map fun i => (2 + (S.seq + 1) % 2 * mapsN S.blocks + i, mapB tk i)
def layC (S : PgS) (root : List UInt8) : List (Nat × List UInt8) := [((S.seq + 1) % 2, slotB (S.seq + 1) root)]
def layL (S : PgS) (tk : Nat → Bool) (root : List UInt8) : List (Nat × List UInt8) := layA S ++ layB S tk ++ layC S root

/-- A list of writes that goes wrong within a front of it. -/
theorem all_front (D : DiskS) (L M : List (Nat × List UInt8)) (h : (D.all L).2 ≠ 0) : D.all (L ++ M) = D.all L := D.all_stop L M h
theorem take_split {α : Type} (L : List α) (i : Nat) : L = L.take i ++ L.drop i := (List.take_append_drop i L).symm

def LayPost (W : World) (pb db : Nat) (F G : Nat → Prop) (S : PgS) (R : DiskS × Int) (e : Ending) (w' : World) : Prop := e = .returned (.int .i64 R.2) ∧ LayEnd W w' pb db F G S R.1
theorem LayPost.stop {W w' : World} {pb db : Nat} {F G : Nat → Prop} {S : PgS} {D : DiskS} {L M : List (Nat × List UInt8)} {er : Int} (h1 : er = (D.all L).2) (h2 : er ≠ 0) (h3 : LayEnd W w' pb db F G S (D.all L).1) : LayPost W pb db F G S (D.all (L ++ M)) (.returned (.int .i64 er)) w' := by
  rw [D.all_stop L M (by rw [← h1]; exact h2)]
  exact ⟨by rw [h1], h3⟩

theorem block_of_row {w : World} {base g n cap : Nat} {zs : List UInt8} (h : w.ownsRow base 5 1 (.slice (some ⟨g, 0, none⟩) n cap) n (bcells zs)) (hn : cap = zs.length) : w.heap[g]? = some (.cells (bcells zs).toArray 5 (0, 0)) := by
  rcases h.2 with ⟨h1, _⟩ | ⟨g', cap', cur, h1, _, hg, h2, h3, h4, h5⟩
  · cases h1
  · cases h1
    have hl := h.1
    rw [bcells_length] at hl
    have e : cur.toList = bcells zs := by
      rw [← h5, List.take_of_length_le]
      rw [Array.length_toList]
      omega
    rw [hg, ← e]
theorem zeros_block {w : World} {g n : Nat} (h : w.ownsRow g 5 1 (.slice (some ⟨g, 0, none⟩) n n) n (madeCells #[Value.int .u8 0] n).toList) : w.heap[g]? = some (.cells (bcells (zerosB n)).toArray 5 (0, 0)) := by
  have e : (madeCells #[Value.int .u8 0] n).toList = bcells (zerosB n) := by
    rw [toList_madeCells_one]
    simp [bcells, zerosB]
  rw [e] at h
  exact block_of_row h (by rw [zerosB_length])
theorem Row.of_block {w : World} {base g : Nat} {zs : List UInt8} (h : w.heap[g]? = some (.cells (bcells zs).toArray 5 (0, 0))) (hb : base ≤ g) (hl : zs.length ≤ maxLen) : Row w base (.slice (some ⟨g, 0, none⟩) zs.length zs.length) zs :=
  ⟨by simp [bcells_length], .inr ⟨g, zs.length, _, rfl, hb, h, Nat.le_refl _, hl, by simp [bcells_length], by simp [bcells_length, List.take_of_length_le]⟩⟩
theorem padB_full {zs : List UInt8} (h : zs.length = 512) : padB zs = zs := by unfold padB; rw [h]; simp [zerosB]
theorem block_cell {w : World} {g k : Nat} {zs : List UInt8} {x : UInt8} (h : w.heap[g]? = some (.cells (bcells zs).toArray 5 (0, 0))) (hx : zs[k]? = some x) : w.cell? ⟨g, k, none⟩ = some (.int .u8 (x.toNat : Int)) := by
  rw [cell_of_row w g k _ _ _ h]
  simp [bcells, hx]
theorem block_set {w : World} {g k : Nat} {zs : List UInt8} (y : UInt8) (h : w.heap[g]? = some (.cells (bcells zs).toArray 5 (0, 0))) : (w.setCell ⟨g, k, none⟩ (.int .u8 (y.toNat : Int))).heap[g]? = some (.cells (bcells (zs.set k y)).toArray 5 (0, 0)) := by
  have e : (bcells (zs.set k y)).toArray = (bcells zs).toArray.setIfInBounds k (.int .u8 (y.toNat : Int)) := by
    apply Array.ext'
    simp [bcells, List.map_set]
  rw [e]
  simp [World.setCell, Array.getElem?_modify, h]
theorem or_bits (x m : Nat) (hm : m < 8) (hx : x < 2 ^ m) : bits .or .u8 ((x : Int) % 256) ((2 : Int) ^ m % 256) = ((UInt8.ofNat (x ||| 2 ^ m)).toNat : Int) := by
  have h2 : 2 ^ m < 256 := Nat.pow_lt_pow_right (by omega) (by omega : m < 8)
  have h3 : ((2 : Int) ^ m) = ((2 ^ m : Nat) : Int) := (Int.natCast_pow 2 m).symm
  have e1 : (x : Int) % 256 = x := by omega
  have e2 : (2 : Int) ^ m % 256 = ((2 ^ m : Nat) : Int) := by rw [h3]; omega
  rw [e1, e2]
  have h4 : x ||| 2 ^ m < 2 ^ 8 := Nat.or_lt_two_pow (by omega) h2
  show IntKind.u8.wrap ((BitVec.ofInt 8 (x : Int) ||| BitVec.ofInt 8 ((2 ^ m : Nat) : Int)).toNat : Int) = _
  rw [BitVec.toNat_or, BitVec.ofInt_natCast, BitVec.ofInt_natCast, BitVec.toNat_ofNat, BitVec.toNat_ofNat, Nat.mod_eq_of_lt (show x < 2 ^ 8 by omega), Nat.mod_eq_of_lt (show 2 ^ m < 2 ^ 8 from h2), UInt8.toNat_ofNat', Nat.mod_eq_of_lt h4]
  have : IntKind.u8.wrap ((x ||| 2 ^ m : Nat) : Int) = ((x ||| 2 ^ m : Nat) : Int) % 256 := by simp [IntKind.wrap, IntKind.signed, IntKind.bits]
  rw [this]
  omega
theorem LayEnd.from' {w W w' : World} {pb db : Nat} {F G : Nat → Prop} {S : PgS} {D' : DiskS} (h : LayEnd W w' pb db F G S D') (hB : Below w.heap.size w W) : LayEnd w w' pb db F G S D' := by
  obtain ⟨G', h1, h2, h3, h4⟩ := h
  exact ⟨G', h1, h2, fun k hk => (h3 k hk).imp id (fun e => Nat.le_trans hB.size e), (Keeps.of_below hB).trans h4⟩
theorem IRow.form {w : World} {base : Nat} {v : Value} {ks : List Int} (h : IRow w base v ks) : ∃ a c, v = .slice a ks.length c ∧ ∀ i, i < ks.length → ∃ g, a = some ⟨g, 0, none⟩ ∧ base ≤ g ∧ g < w.heap.size ∧ ∀ j x, ks[j]? = some x → w.cell? ⟨g, j, none⟩ = some (.int .i64 x) := by
  rcases h.2 with ⟨rfl, h0⟩ | ⟨g, cap, cur, rfl, hb, hg, _⟩
  · have : ks = [] := List.eq_nil_of_length_eq_zero h0
    subst this
    exact ⟨none, 0, rfl, fun i hi => by simp at hi⟩
  · refine ⟨_, cap, rfl, fun i hi => ⟨g, rfl, hb, (Array.getElem?_eq_some_iff.1 hg).1, fun j x hj => ?_⟩⟩
    have := h.cells (g := g) rfl j (.int .i64 x) (by rw [List.getElem?_map, hj]; rfl)
    rwa [Addr.add_lit, Nat.zero_add] at this

theorem pageB_eq (b : List UInt8) : pageB b = padB (beB 2 b.length ++ b) := rfl
theorem mapB_eq (p : Nat → Bool) (i : Nat) : mapB p i = bitsB (fun k => p (i * 4096 + k)) 4096 := rfl
theorem mapB_length (p : Nat → Bool) (i : Nat) : (mapB p i).length = 512 := bitsB_length _ _
theorem layL_eq (S : PgS) (tk : Nat → Bool) (root : List UInt8) : layL S tk root = (layA S ++ layB S tk) ++ [((S.seq + 1) % 2, padB (((wordB ++ beB 8 (S.seq + 1)) ++ beB 1 root.length) ++ root))] := rfl
attribute [local irreducible] DiskS.all DiskS.write padB zerosB pageB slotB mapB bitsB layA layB layC keysOf

set_option maxHeartbeats 6400000 in
set_option maxRecDepth 100000 in
theorem pg_lay {w : World} {pb db : Nat} {F G : Nat → Prop} {D : DiskS} {S : PgS} (h : PgOn w pb db F G D S) (wf : PgWf S) (tb tc : Nat) (tk : Nat → Bool) (ht : Bools w (.slice (some ⟨tb, 0, none⟩) S.blocks tc) tk S.blocks) (htb : ¬ G tb ∧ tb ≠ pb) (htk : ∀ k, S.blocks ≤ k → tk k = false)
    (ra : Option Addr) (rc : Nat) (root : List UInt8) (hr : Reads w (.slice ra root.length rc) root) (hrb : ∀ k, (Value.slice ra root.length rc).ownBlock = some k → ¬ G k ∧ k ≠ pb) (hrl : root.length ≤ 64) :
    Calls Try.prog 36 #[.pointer (some ⟨pb, 0, none⟩), .slice (some ⟨tb, 0, none⟩) S.blocks tc, .slice ra root.length rc] w (LayPost w pb db F G S (D.all (layL S tk root))) := by
  obtain ⟨v5, v6, mb, fb, c, m⟩ := h.pg.ex
  have c0 := c.c0
  have c8 := c.c8
  have HS := Lib.hid (And.intro m.fresh (And.intro wf.hi (And.intro wf h)))
  have HT := Lib.hid (And.intro ht (And.intro htb (And.intro htk (And.intro hr (And.intro hrb hrl)))))
  clear m ht htb htk hr hrb
  have hrl' : (root.length : Int) ≤ 64 := by omega
  clear c h wf hrl
  go_enter Try.func36, Try.ntmps36
  obtain ⟨nk, hnk⟩ : ∃ nk, nk = (keysOf S.fresh S.blocks).length := ⟨_, rfl⟩
  have hkl : ((keysOf S.fresh S.blocks).map fun k : Nat => (k : Int)).length = nk := by simp [hnk]
  have hnk2 : nk ≤ 16384 := by rw [hnk, keysOf_length]; have := cnt_le (fun k => (S.fresh k).isSome) S.blocks; have := HS.out.2.1; omega
  have HKL := Lib.hid (And.intro hkl hnk)
  clear hkl hnk
  go_wp2_with (go_at_call 45; go_must (refine (pg_sorted HS.out.1 HS.out.2.1).mono ?_; rintro e w1 ⟨v1, rfl, hi1, hB1⟩; obtain ⟨va, vc, hv1, hcells⟩ := hi1.form; rw [HKL.out.1] at hv1 hcells; subst hv1); have X1 := Lib.hid (And.intro hi1 hB1); have HC := Lib.hid hcells; clear hi1 hB1 hcells)
  -- the pages
  have L0 : Hid (LayAt w1 w1 pb db F G D S ((layA S).take 0)) := Lib.hid (LayAt.start (HS.out.2.2.2.below X1.out.2))
  have K0 : Hid (w.heap.size ≤ w1.heap.size) := Lib.hid X1.out.2.size
  go_loopg [8, 9, 10, 23] nk (fun g s8 s9 s10 s23 wr => ∃ i : Nat, i + g = nk ∧ s23 = .int .i64 i ∧ LayAt w1 wr pb db F G D S ((layA S).take i))
  case atStart => exact ⟨0, by omega, rfl, L0.out⟩
  case round =>
    obtain ⟨i, hig, rfl, hlay⟩ := hrel
    cases gk with
    | zero =>
      have hi : ¬ ((i : Int) < (nk : Int)) := by omega
      have LX := Lib.hid hlay
      clear hlay
      obtain rfl : i = nk := by omega
      have LX2 : Hid (LayAt w1 wr pb db F G D S (layA S ++ (layB S tk).take 0)) := Lib.hid (by
        have := LX.out
        rw [List.take_of_length_le (by unfold layA; rw [List.length_map]; have := HKL.out.2; omega)] at this
        simpa using this)
      clear LX
      obtain ⟨G', hon, hup, hnew, hk⟩ := LX2.out.at'
      obtain ⟨v5', v6', mb', fb', c', m'⟩ := hon.pg.ex
      have k0 := c'.c0
      have k4 := c'.c4
      have HM : Hid (DkAt wr db G' (D.all (layA S ++ (layB S tk).take 0)).1 ∧ mapsN (D.all (layA S ++ (layB S tk).take 0)).1.blocks = mapsN S.blocks) := Lib.hid ⟨hon.dk, by rw [hon.bl]⟩
      have hsq : (S.seq : Int) < 1000000000000000000 := by have := HS.out.2.2.1.seq; omega
      have hmn : mapsN S.blocks ≤ 4 := maps_le HS.out.2.1
      have hmn' : ((mapsN S.blocks : Nat) : Int) ≤ 4 := by omega
      have HMN := Lib.hid (And.intro hmn (maps_pos (Nat.le_trans (by decide) HS.out.2.2.1.lo)))
      clear hon hup hnew hk c' m' hmn
      go_wp2_with (go_at_call 44; go_must (refine (pg_maps HM.out.1 k0).mono ?_; rw [HM.out.2]; rintro e w' ⟨rfl, rfl⟩))
      go_loopg [12, 13, 14, 15, 16, 52, 56] (mapsN S.blocks) (fun g s12 s13 s14 s15 s16 s52 s56 wr => ∃ j : Nat, j + g = mapsN S.blocks ∧ s52 = .int .i64 j ∧ LayAt w1 wr pb db F G D S (layA S ++ (layB S tk).take j))
      case atStart => exact ⟨0, by omega, rfl, LX2.out⟩
      case round =>
        clear k0 k4 HM
        obtain ⟨j, hjg, rfl, hlay⟩ := hrel
        cases gk with
        | zero =>
          have hj : ¬ ((j : Int) < ((mapsN S.blocks : Nat) : Int)) := by omega
          have LY := Lib.hid hlay
          clear hlay
          obtain rfl : j = mapsN S.blocks := by omega
          have LZ : Hid (LayAt w1 wr pb db F G D S (layA S ++ layB S tk)) := Lib.hid (by
            have := LY.out
            rwa [List.take_of_length_le (by unfold layB; simp)] at this)
          clear LY
          have hcv := conv_word wr
          have HSQ : Hid (S.seq + 1 < 9223372036854775808 ∧ root.length < 9223372036854775808 ∧ ((S.seq : Int) + 1 = ((S.seq + 1 : Nat) : Int))) := Lib.hid ⟨by have := HS.out.2.2.1.seq; omega, by have := HT.out.2.2.2.2.2; omega, by omega⟩
          have HRT : Hid (∀ wx, Below wr.heap.size wr wx → Reads wx (.slice ra root.length rc) root) := Lib.hid (fun wx hBx => by
            obtain ⟨_, _, _, _, _, h4⟩ := LZ.out
            exact ((HT.out.2.2.2.1.below X1.out.2).keeps h4 (fun k hk e => by
              rcases e with e | e
              · exact (HT.out.2.2.2.2.1 k hk).1 e
              · exact (HT.out.2.2.2.2.1 k hk).2 e)).below hBx)
          have HBLK : Hid ((S.seq + 1) % 2 < D.blocks ∧ (((S.seq : Int) + 1) % 2 = (((S.seq + 1) % 2 : Nat) : Int))) := Lib.hid ⟨by have := HS.out.2.2.2.bl; have := HS.out.2.2.1.lo; omega, by omega⟩
          have HLL : Hid (layL S tk root = (layA S ++ layB S tk) ++ [((S.seq + 1) % 2, padB (((wordB ++ beB 8 (S.seq + 1)) ++ beB 1 root.length) ++ root))]) := Lib.hid (layL_eq S tk root)
          go_wp2_with (first
            | (go_at_call_of 47 (Value.int .i64 8); go_must (have hp := pg_put_full wr.heap.size wordB (S.seq + 1) _ (word_reads wr) rfl (by simp) HSQ.out.1; rw [← HSQ.out.2.2] at hp; refine hp.mono ?_; rintro e w2 ⟨v2, rfl, hrow2, hB2⟩; have P2 : Hid (Row w2 wr.heap.size v2 (wordB ++ beB 8 (S.seq + 1)) ∧ Below wr.heap.size wr w2) := Lib.hid ⟨ownsRow_base hrow2 (by simp), ((Below.refl _ wr).alloc (Nat.le_refl _) _).trans (hB2.mono (by simp))⟩; clear hrow2 hB2 hp))
            | (go_at_call_of 47 (Value.int .i64 1); go_must (refine (pg_put wr.heap.size v2 _ 1 root.length w2 P2.out.1 P2.out.2.size (by omega) HSQ.out.2.1 (by simp [wordB, beB_length])).mono ?_; rintro e w3 ⟨v3, rfl, hrow3, hap3⟩; have P3 : Hid (Row w3 wr.heap.size v3 ((wordB ++ beB 8 (S.seq + 1)) ++ beB 1 root.length) ∧ Below wr.heap.size wr w3) := Lib.hid ⟨hrow3, P2.out.2.trans (hap3.keeps.below P2.out.2.size (fun k hk e => by have := (P2.out.1.blk k e).1; omega))⟩; clear hrow3 hap3))
            | (at_builtin; go_must (refine wpList_append_reads rfl (.tmp 108) (.tmp 109) rfl wr.heap.size v3 _ _ root rfl rfl P3.out.1 (HRT.out _ P3.out.2) (by have := HT.out.2.2.2.2.2; simp [wordB, beB_length]; omega) P3.out.2.size ?_; intro v4 w4 hrow4 hgrow4; have P4 : Hid (Row w4 wr.heap.size v4 (((wordB ++ beB 8 (S.seq + 1)) ++ beB 1 root.length) ++ root) ∧ Below wr.heap.size wr w4) := Lib.hid ⟨hrow4, P3.out.2.grown hgrow4 P3.out.2.size (fun k hk => (P3.out.1.blk k hk).1)⟩; clear hrow4 hgrow4))
            | (go_at_call 46; go_must (have hw := lay_write LZ.out P4.out.2 ((S.seq + 1) % 2) HBLK.out.1 v4 _ P4.out.1 (by have := HT.out.2.2.2.2.2; simp [wordB, beB_length]; omega); rw [← HBLK.out.2] at hw; refine hw.mono ?_; rintro e w5 ⟨er, rfl, her, hend⟩; rw [← HLL.out] at her hend; have P5 := Lib.hid (And.intro her (hend.from' X1.out.2)); clear her hend hw)))
          go_ret
          exact ⟨by rw [P5.out.1]; rfl, P5.out.2⟩
        | succ g =>
          have hj : (j : Int) < ((mapsN S.blocks : Nat) : Int) := by omega
          obtain ⟨wB, rfl⟩ : ∃ x : World, x = wr := ⟨_, rfl⟩
          have HL := Lib.hid hlay
          clear hlay
          obtain ⟨i0, hi0, hz0, hz1, hz2⟩ := info_parts infoU8
          go_wp2_with (at_make; refine wpList_make_full _ rfl _ _ 22 rfl wB.heap.size 5 i0 (.int .u8 0) 1 Try.underlying22 hi0 hz0 hz1 _ _ _ _ 512 rfl rfl rfl rfl (by rw [hz2]; omega) (by unfold maxLen; omega) (Nat.le_refl _) ?_)
          intro w2 hown2 hgrow2
          have H2 : Hid (w2.heap[wB.heap.size]? = some (.cells (bcells (bitsB (fun q => tk (j * 4096 + q)) 0)).toArray 5 (0, 0)) ∧ Below wB.heap.size wB w2) := Lib.hid ⟨by rw [bitsB_zero]; exact zeros_block hown2, (Below.refl _ _).grown hgrow2 (Nat.le_refl _) (fun k hk => by cases hk)⟩
          clear hown2 hgrow2
          have HTK : Hid (∀ wx, Below wB.heap.size wB wx → ∀ q, q < S.blocks → wx.cell? ⟨tb, q, none⟩ = some (.bool (tk q))) := Lib.hid (fun wx hBx q hq => by
            obtain ⟨tb', tc', e, h1, h2, h3⟩ := HT.out.1
            cases e
            obtain ⟨_, _, _, _, _, h4⟩ := HL.out
            have hw1 := X1.out.2.size
            exact (hBx.cell (p := ⟨tb, q, none⟩) (by have := h4.size; simp; omega)).trans ((h4.cell (a := ⟨tb, q, none⟩) (by simp; omega) (fun e => by
              rcases e with e | e
              · exact HT.out.2.1.1 e
              · exact HT.out.2.1.2 e)).trans ((X1.out.2.cell (p := ⟨tb, q, none⟩) h2).trans (h3 q hq))))
          have hgb : ¬ wB.heap.size = tb := fun e => by
            obtain ⟨tb', tc', e2, h1, h2, h3⟩ := HT.out.1
            cases e2
            obtain ⟨_, _, _, _, _, h4⟩ := HL.out
            have := X1.out.2.size; have := h4.size; omega
          have hj4 : (j : Int) < 4 := by omega
          have hNb : (S.blocks : Int) ≤ 16384 := by have := HS.out.2.1; omega
          go_wp2
          go_loopg [14, 15, 56] 4096 (fun g3 s14 s15 s56 wx => ∃ k : Nat, k + g3 = 4096 ∧ s56 = .int .i64 k ∧ wx.heap[wB.heap.size]? = some (.cells (bcells (bitsB (fun q => tk (j * 4096 + q)) k)).toArray 5 (0, 0)) ∧ Below wB.heap.size wB wx)
          case atStart => exact ⟨0, by omega, rfl, H2.out.1, H2.out.2⟩
          case round =>
            obtain ⟨k, hkg, rfl, hblk, hBx⟩ := hrel
            have HX := Lib.hid (And.intro hblk hBx)
            clear hblk hBx
            cases gk with
            | zero =>
              obtain rfl : k = 4096 := by omega
              obtain ⟨G', hon, hup, hnew, hk4⟩ := HL.out.at'
              obtain ⟨v5', v6', mb', fb', c', m'⟩ := hon.pg.ex
              have k0 : wr.cell? ⟨pb, 0, none⟩ = some (.pointer (some ⟨db, 0, none⟩)) := (HX.out.2.cell (p := ⟨pb, 0, none⟩) hon.pg.lt).trans c'.c0
              have HM : Hid (DkAt wr db G' (D.all (layA S ++ (layB S tk).take j)).1 ∧ mapsN (D.all (layA S ++ (layB S tk).take j)).1.blocks = mapsN S.blocks) := Lib.hid ⟨hon.dk.below HX.out.2, by rw [hon.bl]⟩
              have hjm : j < mapsN S.blocks := by omega
              have hml : (mapB tk j).length = 512 := mapB_length _ _
              have hpd : padB (mapB tk j) = mapB tk j := padB_full hml
              have HAB : Hid (layA S ++ (layB S tk).take (j + 1) = (layA S ++ (layB S tk).take j) ++ [(2 + (S.seq + 1) % 2 * mapsN S.blocks + j, padB (mapB tk j))]) := Lib.hid (by
                rw [hpd, List.append_assoc]
                congr 1
                unfold layB
                rw [List.take_add_one, List.getElem?_map, List.getElem?_range hjm]
                rfl)
              have HRW : Hid (Row wr wB.heap.size (.slice (some ⟨wB.heap.size, 0, none⟩) 512 512) (mapB tk j) ∧ (mapB tk j).length ≤ 512) := Lib.hid ⟨by
                have := Row.of_block (base := wB.heap.size) HX.out.1 (Nat.le_refl _) (by rw [bitsB_length]; unfold maxLen; omega)
                rw [bitsB_length, ← mapB_eq] at this
                exact this, by omega⟩
              have hnb : 2 + (S.seq + 1) % 2 * mapsN S.blocks + j < D.blocks := by
                have h1 := HS.out.2.2.2.bl
                have h2 := HS.out.2.2.1.lo
                have h3 := HMN.out.1
                have h4 : (S.seq + 1) % 2 * mapsN S.blocks ≤ 1 * mapsN S.blocks := Nat.mul_le_mul_right _ (by omega)
                omega
              have HNB := Lib.hid hnb
              have e1 : ((2 + (S.seq + 1) % 2 * mapsN S.blocks + j : Nat) : Int) = wrap64 (wrap64 (2 + wrap64 (((S.seq : Int) + 1) % 2 * ((mapsN S.blocks : Nat) : Int))) + (j : Int)) := by
                have h3 := HMN.out.1
                have h4 : (S.seq + 1) % 2 * mapsN S.blocks ≤ 1 * mapsN S.blocks := Nat.mul_le_mul_right _ (by omega)
                have hp : ((S.seq : Int) + 1) % 2 * ((mapsN S.blocks : Nat) : Int) = (((S.seq + 1) % 2 * mapsN S.blocks : Nat) : Int) := by rw [Int.natCast_mul, Int.natCast_emod]; rfl
                rw [hp]
                generalize (S.seq + 1) % 2 * mapsN S.blocks = q at *
                rw [IntWalk.wrap64_in (q : Int) (by omega), IntWalk.wrap64_in (2 + (q : Int)) (by omega), IntWalk.wrap64_in (2 + (q : Int) + (j : Int)) (by omega)]
                omega
              have HE1 := Lib.hid e1
              clear hon hup hnew hk4 c' m' hml hpd hnb e1
              go_upto_region 22 with (first
                | (go_at_call 44; go_must (refine (pg_maps HM.out.1 k0).mono ?_; rw [HM.out.2]; rintro e w' ⟨rfl, rfl⟩))
                | (go_at_call 46; go_must (have hw := lay_write HL.out HX.out.2 (2 + (S.seq + 1) % 2 * mapsN S.blocks + j) HNB.out (.slice (some ⟨wB.heap.size, 0, none⟩) 512 512) (mapB tk j) HRW.out.1 HRW.out.2; rw [HE1.out] at hw; refine hw.mono ?_; rintro e w4 ⟨er, rfl, her, hend⟩; rw [← HAB.out] at her hend; have P4 := Lib.hid (And.intro her hend); clear her hend hw)))
              by_cases he0 : er = 0
              · subst he0
                go_wp2
                go_roundg g
                case measure => omega
                case rel => exact ⟨j + 1, by omega, by first | rfl | go_num, ⟨P4.out.1.symm, P4.out.2⟩⟩
              · have he1 : (er != 0) = true := by simpa using he0
                have HSP : Hid (layL S tk root = (layA S ++ (layB S tk).take (j + 1)) ++ ((layB S tk).drop (j + 1) ++ layC S root)) := Lib.hid (by
                  unfold layL
                  rw [List.append_assoc (layA S), List.append_assoc (layA S), ← List.append_assoc ((layB S tk).take (j + 1)), List.take_append_drop])
                have HE := Lib.hid he0
                clear he0
                go_wp2
                go_ret
                rw [HSP.out]
                exact LayPost.stop P4.out.1 HE.out (P4.out.2.from' X1.out.2)
            | succ g3 =>
              have hk : (k : Int) < 4096 := by omega
              have hk0 : (0 : Int) ≤ (k : Int) := by omega
              have hn0 : (0 : Int) ≤ (j : Int) * 4096 + (k : Int) := by omega
              have hn1 : (j : Int) * 4096 + (k : Int) < 16384 := by omega
              by_cases hN : j * 4096 + k < S.blocks
              · have hN' : (j : Int) * 4096 + (k : Int) < (S.blocks : Int) := by omega
                have hct := HTK.out wr HX.out.2 (j * 4096 + k) hN
                cases htk : tk (j * 4096 + k) with
                | false =>
                  rw [htk] at hct
                  have HP : Hid (bitsB (fun q => tk (j * 4096 + q)) (k + 1) = bitsB (fun q => tk (j * 4096 + q)) k) := Lib.hid (bitsB_skip _ k htk)
                  clear hN htk
                  go_wp2
                  go_roundg g3
                  case measure => omega
                  case rel => exact ⟨k + 1, by omega, by first | rfl | go_num, by rw [HP.out]; exact HX.out.1, HX.out.2⟩
                | true =>
                  rw [htk] at hct
                  have HP := Lib.hid (bitsB_put (fun q => tk (j * 4096 + q)) k (by omega) htk)
                  have hold := block_cell HX.out.1 (bitsB_old (fun q => tk (j * 4096 + q)) k (by omega))
                  have hfz : wr.frozen? ⟨wB.heap.size, k / 8, none⟩ = false := by unfold World.frozen?; rw [HX.out.1]; simp
                  have hk8 : (k : Int) / 8 < 512 := by omega
                  have hk8' : (0 : Int) ≤ (k : Int) / 8 := by omega
                  have hk9 : ((k : Int) / 8).toNat = k / 8 := by omega
                  have hkm : ((k : Int) % 8).toNat = k % 8 := by omega
                  have hkm' : (0 : Int) ≤ (k : Int) % 8 := by omega
                  have hkm2 : (k : Int) % 8 < 8 := by omega
                  have HOR := Lib.hid (or_bits (bitsTo (fun k_1 => tk (j * 4096 + (8 * (k / 8) + k_1))) (k % 8)) (k % 8) (by omega) (bitsTo_lt _ _))
                  clear hN htk
                  go_wp2
                  go_region
                  go_wp2
                  go_roundg g3
                  case measure => omega
                  case rel =>
                    refine ⟨k + 1, by omega, by first | rfl | go_num, ?_, (HX.out.2.setCell (Nat.le_refl _) _).drew⟩
                    rw [HP.out, HOR.out]
                    exact block_set _ HX.out.1
              · have hN' : ¬ (j : Int) * 4096 + (k : Int) < (S.blocks : Int) := by omega
                have HP : Hid (bitsB (fun q => tk (j * 4096 + q)) (k + 1) = bitsB (fun q => tk (j * 4096 + q)) k) := Lib.hid (bitsB_skip _ k (HT.out.2.2.1 _ (by omega)))
                clear hN
                go_wp2
                go_roundg g3
                case measure => omega
                case rel => exact ⟨k + 1, by omega, by first | rfl | go_num, by rw [HP.out]; exact HX.out.1, HX.out.2⟩
    | succ g =>
      have hi : (i : Int) < (nk : Int) := by omega
      obtain ⟨G', hon, hup, hnew, hk⟩ := hlay.at'
      obtain ⟨v5', v6', mb', fb', c', m'⟩ := hon.pg.ex
      have k8 := c'.c8
      obtain ⟨f, hmf, hat⟩ := m'.fresh.at'
      have hik : i < (keysOf S.fresh S.blocks).length := by have := HKL.out.2; omega
      obtain ⟨n, hn⟩ : ∃ n, (keysOf S.fresh S.blocks)[i]? = some n := ⟨_, List.getElem?_eq_getElem hik⟩
      obtain ⟨hnN, hns⟩ := (keysOf_mem S.fresh S.blocks n).1 (List.mem_of_getElem? hn)
      obtain ⟨ua, uc, zs, hfn, hzs, hrd⟩ : ∃ ua uc zs, f n = some (.slice ua zs.length uc) ∧ S.fresh n = some zs ∧ Reads wr (.slice ua zs.length uc) zs := by
        rcases hat n with ⟨_, e2⟩ | ⟨a, c, zs, e1, e2, e3, e4, e5⟩
        · have := e2 (by omega); rw [Int.toNat_natCast] at this; rw [this] at hns; cases hns
        · exact ⟨a, c, zs, e1, by rw [Int.toNat_natCast] at e3; exact e3, e4⟩
      have hzl := (HS.out.2.2.1.fresh n zs hzs).2.2.2
      obtain ⟨gk0, rfl, hg1, hg2, hgc⟩ := HC.out i (by omega)
      have hcell : wr.cell? ⟨gk0, i, none⟩ = some (.int .i64 n) := (hk.cell (a := ⟨gk0, i, none⟩) hg2 (fun e => by
        rcases e with e | e
        · have := HS.out.2.2.2.dk.lim _ e; simp at this; omega
        · have := HS.out.2.2.2.pg.lt; simp at e; omega)).trans (hgc i n (by rw [List.getElem?_map, hn]; rfl))
      have hnw : (Lit.int .i64 (n : Int)).wf = true := wf_small n (by have := HS.out.2.1; omega)
      have HX := Lib.hid (And.intro hlay (And.intro hmf (And.intro hfn (And.intro hrd (And.intro hzl (And.intro hnN (And.intro hzs hn)))))))
      have HA : Hid ((layA S).take (i + 1) = (layA S).take i ++ [(n, padB (([] ++ beB 2 zs.length) ++ zs))]) := Lib.hid (by
        unfold layA
        rw [List.take_add_one, List.getElem?_map, hn]
        simp only [Option.map_some, Option.toList_some, hzs, Option.getD_some, List.nil_append, pageB_eq])
      have hzl' : (zs.length : Int) ≤ 496 := by omega
      have hblk : n < D.blocks := by have := HS.out.2.2.2.bl; omega
      have HBK := Lib.hid hblk
      clear hlay hon hup hnew hk c' m' hmf hat hik hn hnN hns hfn hzs hrd hzl hg1 hg2 hgc hblk
      go_upto_region 6 with (first
        | (at_lookup; go_must (refine wpList_lookI _ rfl _ _ 57 rfl 3 22 Try.underlying3 Try.underlying57 (zeroBytes _) mb' _ f rfl HX.out.2.1 n rfl hnw ?_; rw [HX.out.2.2.1]))
        | (go_at_call 47; go_must (refine (pg_put wr.heap.size (.slice none 0 0) [] 2 zs.length wr (Row.nil _ _) (Nat.le_refl _) (by omega) (by have := HX.out.2.2.2.2.1; omega) (by simp)).mono ?_; rintro e w2 ⟨v2, rfl, hrow2, hap2⟩; have P2 := Lib.hid (And.intro hrow2 (hap2.below (fun k hk => (by cases hk)))); clear hrow2 hap2))
        | (at_builtin; go_must (refine wpList_append_reads rfl (.tmp 37) (.tmp 38) rfl wr.heap.size v2 _ _ zs rfl rfl P2.out.1 (HX.out.2.2.2.1.below P2.out.2) (by have := HX.out.2.2.2.2.1; simp [beB_length]; omega) P2.out.2.size ?_; intro v3 w3 hrow3 hgrow3; have P3 : Hid (Row w3 wr.heap.size v3 (([] ++ beB 2 zs.length) ++ zs) ∧ Below wr.heap.size wr w3) := Lib.hid ⟨hrow3, P2.out.2.grown hgrow3 P2.out.2.size (fun k hk => (P2.out.1.blk k hk).1)⟩; clear hrow3 hgrow3))
        | (go_at_call 46; go_must (refine (lay_write HX.out.1 P3.out.2 n HBK.out v3 _ P3.out.1 (by have := HX.out.2.2.2.2.1; simp [beB_length]; omega)).mono ?_; rintro e w4 ⟨er, rfl, her, hend⟩; rw [← HA.out] at her hend; have P4 := Lib.hid (And.intro her hend); clear her hend)))
      by_cases he0 : er = 0
      · subst he0
        go_wp2
        go_roundg g
        case measure => omega
        case rel => exact ⟨i + 1, by omega, by first | rfl | go_num, ⟨P4.out.1.symm, P4.out.2⟩⟩
      · have he1 : (er != 0) = true := by simpa using he0
        have HSP : Hid (layL S tk root = (layA S).take (i + 1) ++ ((layA S).drop (i + 1) ++ (layB S tk ++ layC S root))) := Lib.hid (by
          unfold layL
          rw [List.append_assoc, ← List.append_assoc ((layA S).take (i + 1)), List.take_append_drop])
        have HE := Lib.hid he0
        clear he0
        go_wp2
        go_ret
        rw [HSP.out]
        exact LayPost.stop P4.out.1 HE.out (P4.out.2.from' X1.out.2)
end Go.Proofs.Ytjbomdhlfjcgmaa
