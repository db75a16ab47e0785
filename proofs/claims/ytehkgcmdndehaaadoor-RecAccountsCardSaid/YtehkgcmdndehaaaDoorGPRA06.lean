/- Part of the proof: merged texts. -/
import Derived.Test.YtehkgcmdndehaaaDoorGPRA05
import Derived.Test.YtehkgcmdndehaaaDoorGPRA02
import Derived.Test.YtehkgcmdndehaaaDoorGPRA03
import Derived.WalkSpells
import Derived.WalkLawsBesides
import Derived.Deep.RegionLaw
import Derived.Deep.LoopGhost
import Derived.Deep.DeepFit
import Derived.Deep.DeepMust
namespace Go.Proofs.YtehkgcmdndehaaaDoor
set_option linter.unusedSimpArgs false
set_option linter.unusedVariables false
open Go.RowKit

/-- rec's row that is read, at block rb: what is left to read, what was wrong. -/
structure ReAt (w : World) (rb : Nat) (v : Value) (r : Re) : Prop where
  c0 : w.cell? ⟨rb, 0, none⟩ = some v
  c1 : w.cell? ⟨rb, 1, none⟩ = some (.int .i64 r.err)
  f0 : w.frozen? ⟨rb, 0, none⟩ = false
  f1 : w.frozen? ⟨rb, 1, none⟩ = false
  reads : Reads w v r.bs
  apart : v.ownBlock ≠ some rb

def ReTakePost (w : World) (rb : Nat) (v : Value) (r : Re) (n : Nat) (e : Ending) (w' : World) : Prop :=
  ∃ bv v', e = .returned bv ∧ Reads w' bv (r.take n).1 ∧ ReAt w' rb v' (r.take n).2 ∧ Rds w w' rb ∧ bv.ownBlock ≠ some rb ∧ v'.ownBlock = v.ownBlock

theorem res_set0 {w : World} {rb : Nat} {u : Value} : Rds w (w.setCell ⟨rb, 0, none⟩ u) rb :=
  ⟨rfl, rfl, rfl, by simp [World.setCell], fun k _ hr => Below.heap_setCell _ _ _ _ hr, fun o h0 _ => cell_set_ne (fun e => h0 (by cases e; rfl)), fun o => by simp⟩
theorem res_set1 {w : World} {rb : Nat} {u : Value} : Rds w (w.setCell ⟨rb, 1, none⟩ u) rb :=
  ⟨rfl, rfl, rfl, by simp [World.setCell], fun k _ hr => Below.heap_setCell _ _ _ _ hr, fun o _ h1 => cell_set_ne (fun e => h1 (by cases e; rfl)), fun o => by simp⟩
theorem ReAt.set0 {w : World} {rb : Nat} {v u : Value} {r r' : Re} (h : ReAt w rb v r) (hr : Reads w u r'.bs) (hu : u.ownBlock ≠ some rb) (hc : r'.err = r.err) : ReAt (w.setCell ⟨rb, 0, none⟩ u) rb u r' := by
  have k := res_set0 (w := w) (rb := rb) (u := u)
  exact ⟨cell_set_same h.c0, (cell_set_ne (fun e => by cases e)).trans (by rw [hc]; exact h.c1), (k.frz 0).trans h.f0, (k.frz 1).trans h.f1, hr.rds k hu, hu⟩
theorem ReAt.set1 {w : World} {rb : Nat} {v : Value} {r : Re} (h : ReAt w rb v r) (b : Int) : ReAt (w.setCell ⟨rb, 1, none⟩ (.int .i64 b)) rb v ⟨r.bs, b⟩ := by
  have k := res_set1 (w := w) (rb := rb) (u := .int .i64 b)
  exact ⟨(cell_set_ne (fun e => by cases e)).trans h.c0, cell_set_same h.c1, (k.frz 0).trans h.f0, (k.frz 1).trans h.f1, h.reads.rds k h.apart, h.apart⟩
theorem ReAt.of_below {w w' : World} {rb : Nat} {v : Value} {r : Re} (h : ReAt w rb v r) (hb : rb < w.heap.size) (hB : Below w.heap.size w w') : ReAt w' rb v r :=
  ⟨(hB.cell (p := ⟨rb, 0, none⟩) hb).trans h.c0, (hB.cell (p := ⟨rb, 1, none⟩) hb).trans h.c1, (hB.frozen (p := ⟨rb, 0, none⟩) hb).trans h.f0, (hB.frozen (p := ⟨rb, 1, none⟩) hb).trans h.f1, h.reads.below hB, h.apart⟩

def ReFailPost (w : World) (rb : Nat) (v : Value) (r : Re) (x : Int) (e : Ending) (w' : World) : Prop :=
  e = .returned (.tuple #[]) ∧ ReAt w' rb v (r.fail x) ∧ Rds w w' rb
set_option maxHeartbeats 400000 in
set_option maxRecDepth 100000 in
theorem rrd_fail (rb : Nat) (v : Value) (r : Re) (x : Int) (w : World) (h : ReAt w rb v r) :
    Calls Tryd.prog 89 #[.pointer (some ⟨rb, 0, none⟩), .int .i64 x] w (ReFailPost w rb v r x) := by
  have H := Lib.hid h
  obtain ⟨c0, c1, f0, f1, hrd, hap⟩ := h
  clear hrd hap
  by_cases he : r.err = 0
  · have fin : ReFailPost w rb v r x (.returned (.tuple #[])) (w.setCell ⟨rb, 1, none⟩ (.int .i64 x)) := by
      refine ⟨rfl, ?_, res_set1⟩
      unfold Re.fail
      rw [if_pos he]
      exact H.out.set1 x
    have F := Lib.hid fin
    have hb : (r.err == 0) = true := by rw [he]; rfl
    clear fin he
    go_enter Tryd.func89, Tryd.ntmps89
    go_wp2
    go_end0
    exact F.out
  · have fin : ReFailPost w rb v r x (.returned (.tuple #[])) w := by
      refine ⟨rfl, ?_, Rds.refl _ _⟩
      unfold Re.fail
      rw [if_neg he]
      exact H.out
    have F := Lib.hid fin
    have hb : (r.err == 0) = false := by simp [he]
    clear fin he
    go_enter Tryd.func89, Tryd.ntmps89
    go_wp2
    go_end0
    exact F.out

set_option maxHeartbeats 800000 in
set_option maxRecDepth 100000 in
theorem rrd_take_no (rb n : Nat) (v : Value) (r : Re) (w : World) (h : ReAt w rb v r) (hb : rb < w.heap.size) (hn : n ≤ 1000) (hc : r.err ≠ 0 ∨ r.bs.length < n) :
    Calls Tryd.prog 88 #[.pointer (some ⟨rb, 0, none⟩), .int .i64 n] w (ReTakePost w rb v r n) := by
  obtain ⟨i0, hi, hz0, hz1, hz2⟩ := info_parts infoU8
  have et : r.take n = (List.replicate n 0, r.fail 8) := by unfold Re.take; rw [if_pos hc]
  have ET := Lib.hid et
  have H := Lib.hid h
  obtain ⟨a, c, hv⟩ := h.reads.len
  obtain ⟨c0, c1, f0, f1, hrd, hap⟩ := h
  clear et hrd hap
  subst hv
  have hlt : r.err = 0 → (r.bs.length : Int) < (n : Int) := fun h => by
    rcases hc with hc | hc
    · exact absurd h hc
    · omega
  clear hc
  have FIN : ∀ (w1 w2 : World), ReAt w1 rb (.slice a r.bs.length c) (r.fail 8) → Rds w w1 rb → w2.ownsRow w1.heap.size 5 1 (.slice (some ⟨w1.heap.size, 0, none⟩) n n) n (madeCells #[Value.int .u8 0] n).toList → w1.grownBy w2 none →
      ReTakePost w rb (.slice a r.bs.length c) r n (.returned (.slice (some ⟨w1.heap.size, 0, none⟩) n n)) w2 := fun w1 w2 hat hrs hown hgrow => by
    have hB : Below w1.heap.size w1 w2 := (Below.refl _ _).grown hgrow (Nat.le_refl _) (fun k hk => by cases hk)
    have hb1 : rb < w1.heap.size := Nat.lt_of_lt_of_le hb hrs.size
    unfold ReTakePost
    rw [ET.out]
    exact ⟨_, _, rfl, zeros_reads hown, hat.of_below hb1 hB, hrs.trans (Rds.of_below hB hb1), fun e => by simp [Value.ownBlock] at e; omega, rfl⟩
  have HFIN := Lib.hid FIN
  clear FIN
  by_cases he : r.err = 0
  · have hlt' := hlt he
    have hb1 : (r.err != 0) = false := by simp [he]
    clear hlt he
    go_enter Tryd.func88, Tryd.ntmps88
    go_wp2_with (first | (go_at_call 89; refine (rrd_fail rb _ r 8 w H.out).mono ?_; rintro e w1 ⟨rfl, hat, hrs⟩; have X := Lib.hid (And.intro hat hrs); clear hat hrs) | (at_make; refine wpList_make_full _ rfl _ _ 29 rfl w1.heap.size 5 i0 (.int .u8 0) 1 Tryd.underlying29 hi hz0 hz1 _ _ _ _ n rfl rfl rfl rfl (by rw [hz2]; omega) (by unfold maxLen; omega) (by simp) ?_))
    intro w2 hown hgrow
    have F := Lib.hid (HFIN.out w1 w2 X.out.1 X.out.2 hown hgrow)
    clear hown hgrow
    go_wp2
    go_ret
    exact F.out
  · have hb1 : (r.err != 0) = true := by simp [he]
    clear hlt he
    go_enter Tryd.func88, Tryd.ntmps88
    go_wp2_with (first | (go_at_call 89; refine (rrd_fail rb _ r 8 w H.out).mono ?_; rintro e w1 ⟨rfl, hat, hrs⟩; have X := Lib.hid (And.intro hat hrs); clear hat hrs) | (at_make; refine wpList_make_full _ rfl _ _ 29 rfl w1.heap.size 5 i0 (.int .u8 0) 1 Tryd.underlying29 hi hz0 hz1 _ _ _ _ n rfl rfl rfl rfl (by rw [hz2]; omega) (by unfold maxLen; omega) (by simp) ?_))
    intro w2 hown hgrow
    have F := Lib.hid (HFIN.out w1 w2 X.out.1 X.out.2 hown hgrow)
    clear hown hgrow
    go_wp2
    go_ret
    exact F.out

set_option maxHeartbeats 800000 in
set_option maxRecDepth 100000 in
theorem rrd_take_ok (rb n : Nat) (v : Value) (r : Re) (w : World) (h : ReAt w rb v r) (hb : rb < w.heap.size) (hn : n ≤ 1000) (hc : r.err = 0) (hl : n ≤ r.bs.length) (hmx : r.bs.length ≤ 1000000000) :
    Calls Tryd.prog 88 #[.pointer (some ⟨rb, 0, none⟩), .int .i64 n] w (ReTakePost w rb v r n) := by
  have et : r.take n = (r.bs.take n, ⟨r.bs.drop n, 0⟩) := by unfold Re.take; rw [if_neg (by simp [hc]; omega)]
  have ET := Lib.hid et
  have H := Lib.hid h
  have hge : ¬ (r.bs.length : Int) < (n : Int) := by omega
  obtain ⟨c0, c1, f0, f1, hrd, hap⟩ := h
  have hb1 : (r.err != 0) = false := by simp [hc]
  have HC := Lib.hid hc
  clear et hc
  rcases hrd with ⟨rfl, he⟩ | ⟨b, off, cap, rfl, hlc, hbb, hx⟩
  · have hn0 : n = 0 := by rw [he] at hl; simpa using hl
    subst hn0
    have fin : ReTakePost w rb (.slice none 0 0) r 0 (.returned (.slice none 0 0)) (w.setCell ⟨rb, 0, none⟩ (.slice none 0 0)) := by
      unfold ReTakePost
      rw [ET.out, he]
      exact ⟨_, _, rfl, .inl ⟨rfl, rfl⟩, H.out.set0 (.inl ⟨rfl, rfl⟩) hap HC.out.symm, res_set0, fun e => by (cases e), rfl⟩
    have F := Lib.hid fin
    clear fin he hge
    go_enter Tryd.func88, Tryd.ntmps88
    go_wp2
    go_ret
    exact F.out
  · have hgb : b ≠ rb := fun e => hap (by rw [e]; rfl)
    have ht : Reads w (.slice (some ⟨b, off, none⟩) n cap) (r.bs.take n) := reads_take n hl hlc hbb hx
    have HX := Lib.hid hx
    clear hx
    have hncap : n ≤ cap := by omega
    by_cases hcn : cap = n
    · subst hcn
      have hd : Reads w (.slice (some ⟨b, off, none⟩) 0 0) (r.bs.drop cap) := reads_drop_all hlc hbb
      have fin : ReTakePost w rb (.slice (some ⟨b, off, none⟩) r.bs.length cap) r cap (.returned (.slice (some ⟨b, off, none⟩) cap cap)) (w.setCell ⟨rb, 0, none⟩ (.slice (some ⟨b, off, none⟩) 0 0)) := by
        unfold ReTakePost
        rw [ET.out]
        exact ⟨_, _, rfl, ht.rds (res_set0) hap, H.out.set0 hd hap HC.out.symm, res_set0, hap, rfl⟩
      have F := Lib.hid fin
      clear fin ht hd
      have hz0 : r.bs.length - cap = 0 := by omega
      go_enter Tryd.func88, Tryd.ntmps88
      go_wp2
      go_ret
      exact F.out
    · have hd : Reads w (.slice (some ⟨b, off + n, none⟩) (r.bs.length - n) (cap - n)) (r.bs.drop n) := reads_drop n hl hlc hbb HX.out
      have fin : ReTakePost w rb (.slice (some ⟨b, off, none⟩) r.bs.length cap) r n (.returned (.slice (some ⟨b, off, none⟩) n cap)) (w.setCell ⟨rb, 0, none⟩ (.slice (some ⟨b, off + n, none⟩) (r.bs.length - n) (cap - n))) := by
        unfold ReTakePost
        rw [ET.out]
        exact ⟨_, _, rfl, ht.rds (res_set0) hap, H.out.set0 hd hap HC.out.symm, res_set0, hap, rfl⟩
      have F := Lib.hid fin
      clear fin ht hd
      go_enter Tryd.func88, Tryd.ntmps88
      go_wp2
      go_ret
      exact F.out

theorem rrd_take (rb n : Nat) (v : Value) (r : Re) (w : World) (h : ReAt w rb v r) (hb : rb < w.heap.size) (hn : n ≤ 1000) (hmx : r.bs.length ≤ 1000000000) :
    Calls Tryd.prog 88 #[.pointer (some ⟨rb, 0, none⟩), .int .i64 n] w (ReTakePost w rb v r n) := by
  by_cases hc : r.err ≠ 0 ∨ r.bs.length < n
  · exact rrd_take_no rb n v r w h hb hn hc
  · simp only [not_or, Decidable.not_not, Nat.not_lt] at hc
    exact rrd_take_ok rb n v r w h hb hn hc.1 hc.2 hmx

end Go.Proofs.YtehkgcmdndehaaaDoor

namespace Go.Proofs.YtehkgcmdndehaaaDoor
set_option linter.unusedSimpArgs false
set_option linter.unusedVariables false
open Go.RowKit

set_option maxHeartbeats 400000 in
set_option maxRecDepth 100000 in
theorem rrow_byte (rb : Nat) (v : Value) (xs : List UInt8) (n : Int) (w : World) (hr : RowAt w rb v xs) (hb : rb < w.heap.size) (hl : Fits (xs.length + 1)) :
    Calls Tryd.prog 55 #[.pointer (some ⟨rb, 0, none⟩), .int .i64 n] w (PutPost w rb v (xs ++ [byteOf n])) := by
  obtain ⟨i0, hi, hz0, hz1, hz2⟩ := info_parts infoU8
  have hc := hr.cell
  have hf := hr.free
  have hown := hr.own
  go_enter Tryd.func55, Tryd.ntmps55
  go_wp2_with (at_builtin; refine wpList_append_lies _ rfl (.tmp 8) (.tmp 11) 29 rfl (rb + 1) 5 i0 (.int .u8 0) 1 1 Tryd.underlying29 hi hz0 hz1 hz2 rfl (by decide) v xs.length (bcells xs) rfl (hown.alloc _) ⟨w.heap.size, 0, none⟩ 1 1 (bcells [byteOf n]) rfl rfl ?c1 (bcells_oneCell _) (by decide) hl.max hl.reach (by simp; omega) (w.heap.size + 1) (by simp) ?_)
  case c1 => intro j u hj; match j, hj with | 0, hj => simp [bcells, byteOf_mod] at hj; subst hj; simp [Addr.add]
  intro g cap w1 hown1 hgrow hg hlt
  obtain ⟨k0, e0, fin⟩ := row_grown (v' := .slice (some ⟨g, 0, none⟩) (xs.length + 1) cap) (ys := [byteOf n]) hr hb (below_alloc w _) hgrow
  have F := Lib.hid (fin hown1 (own_of_lies hg (by omega)))
  clear fin hr hc hf hown hown1
  go_wp2
  go_end0
  exact ⟨_, rfl, F.out⟩

set_option maxHeartbeats 1600000 in
set_option maxRecDepth 100000 in
theorem rrow_int (rb nb off c : Nat) (v : Value) (xs : List UInt8) (ns : List Int) (w : World) (hr : RowAt w rb v xs) (hb : rb < w.heap.size) (hl : Fits (xs.length + 8 * ns.length)) (hm : ns.length < 1000)
    (hnb : nb < w.heap.size) (hnr : nb ≠ rb) (hnv : v.ownBlock ≠ some nb) (hns : ∀ k n, ns[k]? = some n → w.cell? ⟨nb, off + k, none⟩ = some (.int .i64 n)) :
    Calls Tryd.prog 56 #[.pointer (some ⟨rb, 0, none⟩), .slice (some ⟨nb, off, none⟩) ns.length c] w (PutPost w rb v (xs ++ encInts ns)) := by
  obtain ⟨i0, hi, hz0, hz1, hz2⟩ := info_parts infoU8
  have HN := Lib.hid hns
  clear hns
  go_enter Tryd.func56, Tryd.ntmps56
  go_wp2
  go_loopg [5, 6, 9] ns.length (fun g s5 s6 s9 wr => ∃ (k : Nat) (vr : Value), k + g = ns.length ∧ s9 = .int .i64 k ∧ RowAt wr rb vr (xs ++ encInts (ns.take k)) ∧ Puts w wr rb v vr)
  case atStart => exact ⟨0, v, by omega, rfl, by simpa [encInts] using hr, Puts.refl _ _ _⟩
  case round =>
    obtain ⟨k, vr, hkg, rfl, hrow, hput⟩ := hrel
    have hsz := hput.size
    cases gk with
    | zero =>
      have hk : ¬ ((k : Int) < (ns.length : Int)) := by omega
      have F := Lib.hid hrow
      clear hrow
      go_wp2
      go_end0
      refine ⟨_, rfl, ?_, hput⟩
      have := F.out
      rwa [List.take_of_length_le (by omega)] at this
    | succ g =>
      obtain ⟨n, hn⟩ : ∃ n, ns[k]? = some n := ⟨_, List.getElem?_eq_getElem (by omega)⟩
      have hk : (k : Int) < (ns.length : Int) := by omega
      have hc := (hput.cell (a := ⟨nb, off + k, none⟩) hnb hnr hnv).trans (HN.out k n hn)
      have HL := encInts_take ns k n hn
      have H := Lib.hid (And.intro hn HL)
      clear hn HL
      have hln := encInts_take_length ns k
      obtain ⟨hrb, hnb'⟩ : rb < wr.heap.size ∧ nb < wr.heap.size := by omega
      go_wp2
      go_loopg [6] 8 (fun g2 s6 wy => ∃ (j : Nat) (vy : Value), j + g2 = 8 ∧ s6 = .int .i64 ((g2 : Int) - 1) ∧ RowAt wy rb vy (xs ++ encInts (ns.take k) ++ (encInt n).take j) ∧ Puts wr wy rb vr vy)
      case atStart => exact ⟨0, vr, by omega, rfl, by simpa using hrow, Puts.refl _ _ _⟩
      case round =>
        obtain ⟨j, vy, hjg, e6, hrow2, hput2⟩ := hrel
        have hsz2 := hput2.size
        cases gk with
        | zero =>
          subst e6
          have X := Lib.hid (And.intro hrow2 hput2)
          clear hrow2 hput2
          go_wp2
          go_roundg g
          case measure => omega
          case rel =>
            refine ⟨k + 1, vy, by omega, by first | rfl | go_num, ?_, hput.trans X.out.2⟩
            have := X.out.1
            rw [List.take_of_length_le (l := encInt n) (by rw [encInt_length]; omega)] at this
            rw [H.out.2, ← List.append_assoc]
            exact this
        | succ g2 =>
          obtain rfl : u6 = .int .i64 g2 := by rw [e6]; congr 1; omega
          have hg8 : g2 < 8 := by omega
          have hg0 : (0 : Int) ≤ (g2 : Int) := by omega
          have hg8' : (g2 : Int) < 8 := by omega
          have w8 : IntKind.i64.wrap (8 * (g2 : Int)) = 8 * (g2 : Int) := IntWalk.i64_in _ (by omega)
          have s0 : (0 : Int) ≤ 8 * (g2 : Int) := by omega
          have s1 : 8 * (g2 : Int) ≤ 64 := by omega
          have s2 : (8 * (g2 : Int)).toNat = 8 * g2 := by omega
          have hfit : Fits ((xs ++ encInts (ns.take k) ++ (encInt n).take j).length + 1) := hl.le (by
            rw [List.length_append, List.length_append, List.length_take, encInt_length]; omega)
          generalize hz : xs ++ encInts (ns.take k) ++ (encInt n).take j = zs at *
          have HZ := Lib.hid hz
          have HR := Lib.hid (And.intro hrow2 hput2)
          have hrb2 : rb < wr.heap.size := by omega
          obtain ⟨hc, hf, hown⟩ := hrow2
          have hne : wr.heap.size ≠ rb := by omega
          clear e6 hrow hz hput2
          go_wp2
          go_region_law (first
            | (refine step_append_lies _ rfl (.tmp 21) (.tmp 27) 29 rfl (rb + 1) 5 i0 (.int .u8 0) 1 1 Tryd.underlying29 hi hz0 hz1 hz2 rfl (by decide) vy _ _ rfl (hown.drew.alloc _) ⟨wr.heap.size, 0, none⟩ 1 1 (bcells [byteOf (n / 2 ^ (8 * g2))]) rfl rfl (news_one _ _ _ (wrap_byteOf _) _) (bcells_oneCell _) (by decide) hfit.max hfit.reach (by simp; omega) (wr.heap.size + 1) (by simp) ?_
               intro g' cap w1 hown1 hgrow hg hlt
               obtain ⟨k0, e0, fin⟩ := row_grown (v' := .slice (some ⟨g', 0, none⟩) (zs.length + 1) cap) (ys := [byteOf (n / 2 ^ (8 * g2))]) HR.out.1 (by omega) (below_alloc wr _).drew hgrow
               have F := Lib.hid (fin hown1 (own_of_lies hg (by omega)))
               clear fin hown1))
          all_goals clear hown hc hf
          all_goals go_wp2
          all_goals go_roundg g2
          all_goals first
            | (case measure => omega)
            | skip
          all_goals
            refine ⟨j + 1, _, by omega, by first | rfl | go_num, ?_, HR.out.2.trans F.out.2⟩
            rw [encInt_take n j g2 (by omega), ← List.append_assoc, HZ.out]
            exact F.out.1

set_option maxHeartbeats 1600000 in
set_option maxRecDepth 100000 in
theorem rrow_text (rb : Nat) (v : Value) (zs : List UInt8) (s : ByteArray) (w : World) (hr : RowAt w rb v zs) (hb : rb < w.heap.size) (hl : Fits (zs.length + (encText s).length)) :
    Calls Tryd.prog 54 #[.pointer (some ⟨rb, 0, none⟩), .string s] w (PutPost w rb v (zs ++ encText s)) := by
  obtain ⟨i0, hi, hz0, hz1, hz2⟩ := info_parts infoU8
  have hf1 : Fits (zs.length + 1) := hl.le (by rw [encText_length]; omega)
  have hf2 : Fits ((zs ++ [byteOf s.size]).length + s.size) := hl.le (by rw [List.length_append, List.length_singleton, encText_length]; omega)
  have HR := Lib.hid hr
  clear hr hl
  go_enter Tryd.func54, Tryd.ntmps54
  go_wp2_with fail
  refine (rrow_byte rb v zs s.size w HR.out hb hf1).mono ?_
  rintro e w1 ⟨v1, rfl, hrow1, hput1⟩
  have hsz1 := hput1.size
  have hrb1 : rb < w1.heap.size := by omega
  have hpos : 0 < (zs ++ [byteOf s.size]).length := by simp
  generalize hzb : zs ++ [byteOf s.size] = zb at *
  have HZ := Lib.hid hzb
  obtain ⟨g1, cap1, rfl, _⟩ := hrow1.own.form hpos
  obtain ⟨hc1, hfr1, hown1⟩ := hrow1
  clear hzb
  go_wp2_with (at_builtin; refine wpList_append_str _ rfl (.tmp 12) (.tmp 13) 29 9 rfl (rb + 1) 5 i0 Tryd.underlying29 Tryd.underlying9 hi hz0 hz1 hz2 _ _ _ rfl hown1 s rfl hf2.max hf2.reach' (by omega) ?_)
  intro v2 w2 hown2 hgrow2 hat2
  obtain ⟨k0, e0, fin⟩ := row_grown (v' := v2) (ys := s.data.toList) ⟨hc1, hfr1, hown1⟩ hrb1 (Below.refl _ w1) hgrow2
  obtain ⟨g2, cap2, rfl, _⟩ := hown2.form (by omega)
  have F := Lib.hid (fin hown2 (by rcases hat2 with h | h; exact .inl h.symm; exact .inr ⟨_, h, by omega⟩))
  clear fin hown2 hown1 hc1 hfr1 hat2
  go_wp2
  go_end0
  refine ⟨_, rfl, ?_, hput1.trans F.out.2⟩
  rw [show zs ++ encText s = zb ++ s.data.toList by rw [← HZ.out, List.append_assoc]; rfl]
  exact F.out.1

/-- Numbers in a new block, put. -/
theorem rrow_ints (rb nb m : Nat) (cs : Array Value) (T : TypeId) (v : Value) (xs : List UInt8) (ns : List Int) (w wx : World) (hr : RowAt w rb v xs) (hb : rb < w.heap.size) (hl : Fits (xs.length + 8 * ns.length)) (hlen : ns.length < 1000)
    (hm : m = ns.length) (hB : Below w.heap.size w wx) (hnb : w.heap.size ≤ nb) (hblk : wx.heap[nb]? = some (.cells cs T (0, 0))) (hcs : cs = (ns.map (Value.int .i64)).toArray) :
    Calls Tryd.prog 56 #[.pointer (some ⟨rb, 0, none⟩), .slice (some ⟨nb, 0, none⟩) m m] wx (PutPost w rb v (xs ++ encInts ns)) := by
  subst hm
  subst hcs
  have hlt : nb < wx.heap.size := (Array.getElem?_eq_some_iff.1 hblk).1
  have hsz := hB.size
  refine (rrow_int rb nb 0 ns.length v xs ns wx (hr.of_below hb hB) (by omega) hl hlen hlt (by omega) (fun e => by have := hr.own.lt nb e; omega) (fun k n hn => ?_)).mono ?_
  · rw [Nat.zero_add, cell_of_row wx _ _ _ _ _ hblk]; simp [hn]
  · rintro e w' ⟨v', he, hrow, hput⟩
    exact ⟨v', he, hrow, Puts.from_below hb hB hput⟩
end Go.Proofs.YtehkgcmdndehaaaDoor

