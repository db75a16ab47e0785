import Derived.Test.YtehkgcmdndehaaaDoorRdW
import Derived.Test.YtehkgcmdndehaaaDoorReD
namespace Go.Proofs.YtehkgcmdndehaaaDoor
set_option linter.unusedSimpArgs false
set_option linter.unusedVariables false
open Go.RowKit

/-- rec's row that is read, at block rb: what is left to read, what was wrong. -/
structure ReAt (w : World) (rb : Nat) (v : Value) (r : Re) : Prop where
  c0 : w.cell? ⟨rb, 0, none⟩ = some v
  c1 : w.cell? ⟨rb, 1, none⟩ = some (.int .i64 r.err)
  f0 : w.frozen? ⟨rb, 0, none⟩ = false
  f1 : w.frozen? ⟨rb, 1, none⟩ = false
  reads : Reads w v r.bs
  apart : v.ownBlock ≠ some rb

def ReTakePost (w : World) (rb : Nat) (v : Value) (r : Re) (n : Nat) (e : Ending) (w' : World) : Prop :=
  ∃ bv v', e = .returned bv ∧ Reads w' bv (r.take n).1 ∧ ReAt w' rb v' (r.take n).2 ∧ Rds w w' rb ∧ bv.ownBlock ≠ some rb ∧ v'.ownBlock = v.ownBlock

theorem res_set0 {w : World} {rb : Nat} {u : Value} : Rds w (w.setCell ⟨rb, 0, none⟩ u) rb :=
  ⟨rfl, rfl, rfl, by simp [World.setCell], fun k _ hr => Below.heap_setCell _ _ _ _ hr, fun o h0 _ => cell_set_ne (fun e => h0 (by cases e; rfl)), fun o => by simp⟩
theorem res_set1 {w : World} {rb : Nat} {u : Value} : Rds w (w.setCell ⟨rb, 1, none⟩ u) rb :=
  ⟨rfl, rfl, rfl, by simp [World.setCell], fun k _ hr => Below.heap_setCell _ _ _ _ hr, fun o _ h1 => cell_set_ne (fun e => h1 (by cases e; rfl)), fun o => by simp⟩
theorem ReAt.set0 {w : World} {rb : Nat} {v u : Value} {r r' : Re} (h : ReAt w rb v r) (hr : Reads w u r'.bs) (hu : u.ownBlock ≠ some rb) (hc : r'.err = r.err) : ReAt (w.setCell ⟨rb, 0, none⟩ u) rb u r' := by
  have k := res_set0 (w := w) (rb := rb) (u := u)
  exact ⟨cell_set_same h.c0, (cell_set_ne (fun e => by cases e)).trans (by rw [hc]; exact h.c1), (k.frz 0).trans h.f0, (k.frz 1).trans h.f1, hr.rds k hu, hu⟩
theorem ReAt.set1 {w : World} {rb : Nat} {v : Value} {r : Re} (h : ReAt w rb v r) (b : Int) : ReAt (w.setCell ⟨rb, 1, none⟩ (.int .i64 b)) rb v ⟨r.bs, b⟩ := by
  have k := res_set1 (w := w) (rb := rb) (u := .int .i64 b)
  exact ⟨(cell_set_ne (fun e => by cases e)).trans h.c0, cell_set_same h.c1, (k.frz 0).trans h.f0, (k.frz 1).trans h.f1, h.reads.rds k h.apart, h.apart⟩
theorem ReAt.of_below {w w' : World} {rb : Nat} {v : Value} {r : Re} (h : ReAt w rb v r) (hb : rb < w.heap.size) (hB : Below w.heap.size w w') : ReAt w' rb v r :=
  ⟨(hB.cell (p := ⟨rb, 0, none⟩) hb).trans h.c0, (hB.cell (p := ⟨rb, 1, none⟩) hb).trans h.c1, (hB.frozen (p := ⟨rb, 0, none⟩) hb).trans h.f0, (hB.frozen (p := ⟨rb, 1, none⟩) hb).trans h.f1, h.reads.below hB, h.apart⟩

def ReFailPost (w : World) (rb : Nat) (v : Value) (r : Re) (x : Int) (e : Ending) (w' : World) : Prop :=
  e = .returned (.tuple #[]) ∧ ReAt w' rb v (r.fail x) ∧ Rds w w' rb
set_option maxHeartbeats 400000 in
set_option maxRecDepth 100000 in
theorem rrd_fail (rb : Nat) (v : Value) (r : Re) (x : Int) (w : World) (h : ReAt w rb v r) :
    Calls Tryd.prog 89 #[.pointer (some ⟨rb, 0, none⟩), .int .i64 x] w (ReFailPost w rb v r x) := by
  have H := Lib.hid h
  obtain ⟨c0, c1, f0, f1, hrd, hap⟩ := h
  clear hrd hap
  by_cases he : r.err = 0
  · have fin : ReFailPost w rb v r x (.returned (.tuple #[])) (w.setCell ⟨rb, 1, none⟩ (.int .i64 x)) := by
      refine ⟨rfl, ?_, res_set1⟩
      unfold Re.fail
      rw [if_pos he]
      exact H.out.set1 x
    have F := Lib.hid fin
    have hb : (r.err == 0) = true := by rw [he]; rfl
    clear fin he
    go_enter Tryd.func89, Tryd.ntmps89
    go_wp2
    go_end0
    exact F.out
  · have fin : ReFailPost w rb v r x (.returned (.tuple #[])) w := by
      refine ⟨rfl, ?_, Rds.refl _ _⟩
      unfold Re.fail
      rw [if_neg he]
      exact H.out
    have F := Lib.hid fin
    have hb : (r.err == 0) = false := by simp [he]
    clear fin he
    go_enter Tryd.func89, Tryd.ntmps89
    go_wp2
    go_end0
    exact F.out

set_option maxHeartbeats 800000 in
set_option maxRecDepth 100000 in
theorem rrd_take_no (rb n : Nat) (v : Value) (r : Re) (w : World) (h : ReAt w rb v r) (hb : rb < w.heap.size) (hn : n ≤ 1000) (hc : r.err ≠ 0 ∨ r.bs.length < n) :
    Calls Tryd.prog 88 #[.pointer (some ⟨rb, 0, none⟩), .int .i64 n] w (ReTakePost w rb v r n) := by
  obtain ⟨i0, hi, hz0, hz1, hz2⟩ := info_parts infoU8
  have et : r.take n = (List.replicate n 0, r.fail 8) := by unfold Re.take; rw [if_pos hc]
  have ET := Lib.hid et
  have H := Lib.hid h
  obtain ⟨a, c, hv⟩ := h.reads.len
  obtain ⟨c0, c1, f0, f1, hrd, hap⟩ := h
  clear et hrd hap
  subst hv
  have hlt : r.err = 0 → (r.bs.length : Int) < (n : Int) := fun h => by
    rcases hc with hc | hc
    · exact absurd h hc
    · omega
  clear hc
  have FIN : ∀ (w1 w2 : World), ReAt w1 rb (.slice a r.bs.length c) (r.fail 8) → Rds w w1 rb → w2.ownsRow w1.heap.size 5 1 (.slice (some ⟨w1.heap.size, 0, none⟩) n n) n (madeCells #[Value.int .u8 0] n).toList → w1.grownBy w2 none →
      ReTakePost w rb (.slice a r.bs.length c) r n (.returned (.slice (some ⟨w1.heap.size, 0, none⟩) n n)) w2 := fun w1 w2 hat hrs hown hgrow => by
    have hB : Below w1.heap.size w1 w2 := (Below.refl _ _).grown hgrow (Nat.le_refl _) (fun k hk => by cases hk)
    have hb1 : rb < w1.heap.size := Nat.lt_of_lt_of_le hb hrs.size
    unfold ReTakePost
    rw [ET.out]
    exact ⟨_, _, rfl, zeros_reads hown, hat.of_below hb1 hB, hrs.trans (Rds.of_below hB hb1), fun e => by simp [Value.ownBlock] at e; omega, rfl⟩
  have HFIN := Lib.hid FIN
  clear FIN
  by_cases he : r.err = 0
  · have hlt' := hlt he
    have hb1 : (r.err != 0) = false := by simp [he]
    clear hlt he
    go_enter Tryd.func88, Tryd.ntmps88
    go_wp2_with (first | (go_at_call 89; refine (rrd_fail rb _ r 8 w H.out).mono ?_; rintro e w1 ⟨rfl, hat, hrs⟩; have X := Lib.hid (And.intro hat hrs); clear hat hrs) | (at_make; refine wpList_make_full _ rfl _ _ 29 rfl w1.heap.size 5 i0 (.int .u8 0) 1 Tryd.underlying29 hi hz0 hz1 _ _ _ _ n rfl rfl rfl rfl (by rw [hz2]; omega) (by unfold maxLen; omega) (by simp) ?_))
    intro w2 hown hgrow
    have F := Lib.hid (HFIN.out w1 w2 X.out.1 X.out.2 hown hgrow)
    clear hown hgrow
    go_wp2
    go_ret
    exact F.out
  · have hb1 : (r.err != 0) = true := by simp [he]
    clear hlt he
    go_enter Tryd.func88, Tryd.ntmps88
    go_wp2_with (first | (go_at_call 89; refine (rrd_fail rb _ r 8 w H.out).mono ?_; rintro e w1 ⟨rfl, hat, hrs⟩; have X := Lib.hid (And.intro hat hrs); clear hat hrs) | (at_make; refine wpList_make_full _ rfl _ _ 29 rfl w1.heap.size 5 i0 (.int .u8 0) 1 Tryd.underlying29 hi hz0 hz1 _ _ _ _ n rfl rfl rfl rfl (by rw [hz2]; omega) (by unfold maxLen; omega) (by simp) ?_))
    intro w2 hown hgrow
    have F := Lib.hid (HFIN.out w1 w2 X.out.1 X.out.2 hown hgrow)
    clear hown hgrow
    go_wp2
    go_ret
    exact F.out

set_option maxHeartbeats 800000 in
set_option maxRecDepth 100000 in
theorem rrd_take_ok (rb n : Nat) (v : Value) (r : Re) (w : World) (h : ReAt w rb v r) (hb : rb < w.heap.size) (hn : n ≤ 1000) (hc : r.err = 0) (hl : n ≤ r.bs.length) (hmx : r.bs.length ≤ 1000000000) :
    Calls Tryd.prog 88 #[.pointer (some ⟨rb, 0, none⟩), .int .i64 n] w (ReTakePost w rb v r n) := by
  have et : r.take n = (r.bs.take n, ⟨r.bs.drop n, 0⟩) := by unfold Re.take; rw [if_neg (by simp [hc]; omega)]
  have ET := Lib.hid et
  have H := Lib.hid h
  have hge : ¬ (r.bs.length : Int) < (n : Int) := by omega
  obtain ⟨c0, c1, f0, f1, hrd, hap⟩ := h
  have hb1 : (r.err != 0) = false := by simp [hc]
  have HC := Lib.hid hc
  clear et hc
  rcases hrd with ⟨rfl, he⟩ | ⟨b, off, cap, rfl, hlc, hbb, hx⟩
  · have hn0 : n = 0 := by rw [he] at hl; simpa using hl
    subst hn0
    have fin : ReTakePost w rb (.slice none 0 0) r 0 (.returned (.slice none 0 0)) (w.setCell ⟨rb, 0, none⟩ (.slice none 0 0)) := by
      unfold ReTakePost
      rw [ET.out, he]
      exact ⟨_, _, rfl, .inl ⟨rfl, rfl⟩, H.out.set0 (.inl ⟨rfl, rfl⟩) hap HC.out.symm, res_set0, fun e => by (cases e), rfl⟩
    have F := Lib.hid fin
    clear fin he hge
    go_enter Tryd.func88, Tryd.ntmps88
    go_wp2
    go_ret
    exact F.out
  · have hgb : b ≠ rb := fun e => hap (by rw [e]; rfl)
    have ht : Reads w (.slice (some ⟨b, off, none⟩) n cap) (r.bs.take n) := reads_take n hl hlc hbb hx
    have HX := Lib.hid hx
    clear hx
    have hncap : n ≤ cap := by omega
    by_cases hcn : cap = n
    · subst hcn
      have hd : Reads w (.slice (some ⟨b, off, none⟩) 0 0) (r.bs.drop cap) := reads_drop_all hlc hbb
      have fin : ReTakePost w rb (.slice (some ⟨b, off, none⟩) r.bs.length cap) r cap (.returned (.slice (some ⟨b, off, none⟩) cap cap)) (w.setCell ⟨rb, 0, none⟩ (.slice (some ⟨b, off, none⟩) 0 0)) := by
        unfold ReTakePost
        rw [ET.out]
        exact ⟨_, _, rfl, ht.rds (res_set0) hap, H.out.set0 hd hap HC.out.symm, res_set0, hap, rfl⟩
      have F := Lib.hid fin
      clear fin ht hd
      have hz0 : r.bs.length - cap = 0 := by omega
      go_enter Tryd.func88, Tryd.ntmps88
      go_wp2
      go_ret
      exact F.out
    · have hd : Reads w (.slice (some ⟨b, off + n, none⟩) (r.bs.length - n) (cap - n)) (r.bs.drop n) := reads_drop n hl hlc hbb HX.out
      have fin : ReTakePost w rb (.slice (some ⟨b, off, none⟩) r.bs.length cap) r n (.returned (.slice (some ⟨b, off, none⟩) n cap)) (w.setCell ⟨rb, 0, none⟩ (.slice (some ⟨b, off + n, none⟩) (r.bs.length - n) (cap - n))) := by
        unfold ReTakePost
        rw [ET.out]
        exact ⟨_, _, rfl, ht.rds (res_set0) hap, H.out.set0 hd hap HC.out.symm, res_set0, hap, rfl⟩
      have F := Lib.hid fin
      clear fin ht hd
      go_enter Tryd.func88, Tryd.ntmps88
      go_wp2
      go_ret
      exact F.out

theorem rrd_take (rb n : Nat) (v : Value) (r : Re) (w : World) (h : ReAt w rb v r) (hb : rb < w.heap.size) (hn : n ≤ 1000) (hmx : r.bs.length ≤ 1000000000) :
    Calls Tryd.prog 88 #[.pointer (some ⟨rb, 0, none⟩), .int .i64 n] w (ReTakePost w rb v r n) := by
  by_cases hc : r.err ≠ 0 ∨ r.bs.length < n
  · exact rrd_take_no rb n v r w h hb hn hc
  · simp only [not_or, Decidable.not_not, Nat.not_lt] at hc
    exact rrd_take_ok rb n v r w h hb hn hc.1 hc.2 hmx

end Go.Proofs.YtehkgcmdndehaaaDoor
