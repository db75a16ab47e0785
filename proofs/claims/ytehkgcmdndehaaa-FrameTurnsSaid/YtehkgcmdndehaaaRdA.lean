import Derived.Test.YtehkgcmdndehaaaRow
import Derived.Test.YtehkgcmdndehaaaRdW
import Derived.Test.YtehkgcmdndehaaaRdD
namespace Go.Proofs.Ytehkgcmdndehaaa
set_option linter.unusedSimpArgs false
set_option linter.unusedVariables false
open Go.RowKit

/-- A row that is read, at block rb: what is left to read, whether bytes lacked. -/
structure RdAt (w : World) (rb : Nat) (v : Value) (r : Rd) : Prop where
  c0 : w.cell? ⟨rb, 0, none⟩ = some v
  c1 : w.cell? ⟨rb, 1, none⟩ = some (.bool r.cut)
  f0 : w.frozen? ⟨rb, 0, none⟩ = false
  f1 : w.frozen? ⟨rb, 1, none⟩ = false
  reads : Reads w v r.bs
  apart : v.ownBlock ≠ some rb

def TakePost (w : World) (rb : Nat) (v : Value) (r : Rd) (n : Nat) (e : Ending) (w' : World) : Prop :=
  ∃ bv v', e = .returned bv ∧ Reads w' bv (r.take n).1 ∧ RdAt w' rb v' (r.take n).2 ∧ Rds w w' rb ∧ bv.ownBlock ≠ some rb ∧ v'.ownBlock = v.ownBlock

theorem rds_set0 {w : World} {rb : Nat} {v u : Value} {r : Rd} (h : RdAt w rb v r) : Rds w (w.setCell ⟨rb, 0, none⟩ u) rb :=
  ⟨rfl, rfl, rfl, by simp [World.setCell], fun k _ hr => Below.heap_setCell _ _ _ _ hr, fun o h0 _ => cell_set_ne (fun e => h0 (by cases e; rfl)), fun o => by simp⟩
theorem rds_set1 {w : World} {rb : Nat} {v u : Value} {r : Rd} (h : RdAt w rb v r) : Rds w (w.setCell ⟨rb, 1, none⟩ u) rb :=
  ⟨rfl, rfl, rfl, by simp [World.setCell], fun k _ hr => Below.heap_setCell _ _ _ _ hr, fun o _ h1 => cell_set_ne (fun e => h1 (by cases e; rfl)), fun o => by simp⟩

theorem RdAt.set0 {w : World} {rb : Nat} {v u : Value} {r r' : Rd} (h : RdAt w rb v r) (hr : Reads w u r'.bs) (hu : u.ownBlock ≠ some rb) (hc : r'.cut = r.cut) : RdAt (w.setCell ⟨rb, 0, none⟩ u) rb u r' := by
  have k := rds_set0 (u := u) h
  exact ⟨cell_set_same h.c0, (cell_set_ne (fun e => by cases e)).trans (by rw [hc]; exact h.c1), (k.frz 0).trans h.f0, (k.frz 1).trans h.f1, hr.rds k hu, hu⟩
theorem RdAt.set1 {w : World} {rb : Nat} {v : Value} {r : Rd} (h : RdAt w rb v r) (b : Bool) : RdAt (w.setCell ⟨rb, 1, none⟩ (.bool b)) rb v ⟨r.bs, b⟩ := by
  have k := rds_set1 (u := .bool b) h
  exact ⟨(cell_set_ne (fun e => by cases e)).trans h.c0, cell_set_same h.c1, (k.frz 0).trans h.f0, (k.frz 1).trans h.f1, h.reads.rds k h.apart, h.apart⟩
theorem RdAt.of_below {w w' : World} {rb : Nat} {v : Value} {r : Rd} (h : RdAt w rb v r) (hb : rb < w.heap.size) (hB : Below w.heap.size w w') : RdAt w' rb v r :=
  ⟨(hB.cell (p := ⟨rb, 0, none⟩) hb).trans h.c0, (hB.cell (p := ⟨rb, 1, none⟩) hb).trans h.c1, (hB.frozen (p := ⟨rb, 0, none⟩) hb).trans h.f0, (hB.frozen (p := ⟨rb, 1, none⟩) hb).trans h.f1, h.reads.below hB, h.apart⟩

set_option maxHeartbeats 800000 in
set_option maxRecDepth 100000 in
theorem frd_take_cut (rb n : Nat) (v : Value) (r : Rd) (w : World) (h : RdAt w rb v r) (hb : rb < w.heap.size) (hn : n ≤ 1000) (hc : r.cut = true ∨ r.bs.length < n) :
    Calls Try.prog 65 #[.pointer (some ⟨rb, 0, none⟩), .int .i64 n] w (TakePost w rb v r n) := by
  obtain ⟨i0, hi, hz0, hz1, hz2⟩ := info_parts infoU8
  have et : r.take n = (List.replicate n 0, ⟨r.bs, true⟩) := by unfold Rd.take; rw [if_pos hc]
  have ET := Lib.hid et
  have H := Lib.hid h
  obtain ⟨a, c, hv⟩ := h.reads.len
  obtain ⟨c0, c1, f0, f1, hrd, hap⟩ := h
  clear et hrd hap
  subst hv
  have hlt : r.cut = false → (r.bs.length : Int) < (n : Int) := fun h => by
    rcases hc with hc | hc
    · rw [h] at hc; cases hc
    · omega
  have H1 := Lib.hid (H.out.set1 true)
  have S1 := Lib.hid (rds_set1 (u := .bool true) H.out)
  clear hc
  cases hcut : r.cut with
  | true =>
    rw [hcut] at c1
    clear hcut hlt
    go_enter Try.func65, Try.ntmps65
    go_wp2_with (at_make; refine wpList_make_full _ rfl _ _ 28 rfl w.heap.size 5 i0 (.int .u8 0) 1 Try.underlying28 hi hz0 hz1 _ _ _ _ n rfl rfl rfl rfl (by rw [hz2]; omega) (by unfold maxLen; omega) (by simp [World.setCell]) ?_)
    intro w1 hown hgrow
    have hB : Below (w.setCell ⟨rb, 1, none⟩ (.bool true)).heap.size (w.setCell ⟨rb, 1, none⟩ (.bool true)) w1 := (Below.refl _ _).grown hgrow (Nat.le_refl _) (fun k hk => by cases hk)
    have fin : TakePost w rb (.slice a r.bs.length c) r n (.returned (.slice (some ⟨w.heap.size, 0, none⟩) n n)) w1 := by
      unfold TakePost
      rw [ET.out]
      exact ⟨_, _, rfl, zeros_reads hown, H1.out.of_below (by simpa [World.setCell] using hb) hB, S1.out.trans (Rds.of_below hB (by simpa [World.setCell] using hb)), fun e => by simp [Value.ownBlock] at e; omega, rfl⟩
    have F := Lib.hid fin
    clear fin hown hgrow hB
    go_wp2
    go_ret
    exact F.out
  | false =>
    have hlt' := hlt hcut
    rw [hcut] at c1
    clear hcut hlt
    go_enter Try.func65, Try.ntmps65
    go_wp2_with (at_make; refine wpList_make_full _ rfl _ _ 28 rfl w.heap.size 5 i0 (.int .u8 0) 1 Try.underlying28 hi hz0 hz1 _ _ _ _ n rfl rfl rfl rfl (by rw [hz2]; omega) (by unfold maxLen; omega) (by simp [World.setCell]) ?_)
    intro w1 hown hgrow
    have hB : Below (w.setCell ⟨rb, 1, none⟩ (.bool true)).heap.size (w.setCell ⟨rb, 1, none⟩ (.bool true)) w1 := (Below.refl _ _).grown hgrow (Nat.le_refl _) (fun k hk => by cases hk)
    have fin : TakePost w rb (.slice a r.bs.length c) r n (.returned (.slice (some ⟨w.heap.size, 0, none⟩) n n)) w1 := by
      unfold TakePost
      rw [ET.out]
      exact ⟨_, _, rfl, zeros_reads hown, H1.out.of_below (by simpa [World.setCell] using hb) hB, S1.out.trans (Rds.of_below hB (by simpa [World.setCell] using hb)), fun e => by simp [Value.ownBlock] at e; omega, rfl⟩
    have F := Lib.hid fin
    clear fin hown hgrow hB
    go_wp2
    go_ret
    exact F.out

set_option maxHeartbeats 800000 in
set_option maxRecDepth 100000 in
theorem frd_take_ok (rb n : Nat) (v : Value) (r : Rd) (w : World) (h : RdAt w rb v r) (hb : rb < w.heap.size) (hn : n ≤ 1000) (hc : r.cut = false) (hl : n ≤ r.bs.length) (hmx : r.bs.length ≤ 1000000000) :
    Calls Try.prog 65 #[.pointer (some ⟨rb, 0, none⟩), .int .i64 n] w (TakePost w rb v r n) := by
  have et : r.take n = (r.bs.take n, ⟨r.bs.drop n, false⟩) := by unfold Rd.take; rw [if_neg (by simp [hc]; omega)]
  have ET := Lib.hid et
  have H := Lib.hid h
  have hge : ¬ (r.bs.length : Int) < (n : Int) := by omega
  obtain ⟨c0, c1, f0, f1, hrd, hap⟩ := h
  rw [hc] at c1
  have HC := Lib.hid hc
  clear et hc
  rcases hrd with ⟨rfl, he⟩ | ⟨b, off, cap, rfl, hlc, hbb, hx⟩
  · have hn0 : n = 0 := by rw [he] at hl; simpa using hl
    subst hn0
    have fin : TakePost w rb (.slice none 0 0) r 0 (.returned (.slice none 0 0)) (w.setCell ⟨rb, 0, none⟩ (.slice none 0 0)) := by
      unfold TakePost
      rw [ET.out, he]
      exact ⟨_, _, rfl, .inl ⟨rfl, rfl⟩, H.out.set0 (.inl ⟨rfl, rfl⟩) hap HC.out.symm, rds_set0 H.out, fun e => by (cases e), rfl⟩
    have F := Lib.hid fin
    clear fin he hge
    go_enter Try.func65, Try.ntmps65
    go_wp2
    go_ret
    exact F.out
  · have hgb : b ≠ rb := fun e => hap (by rw [e]; rfl)
    have ht : Reads w (.slice (some ⟨b, off, none⟩) n cap) (r.bs.take n) := reads_take n hl hlc hbb hx
    have HX := Lib.hid hx
    clear hx
    have hncap : n ≤ cap := by omega
    by_cases hcn : cap = n
    · subst hcn
      have hd : Reads w (.slice (some ⟨b, off, none⟩) 0 0) (r.bs.drop cap) := reads_drop_all hlc hbb
      have fin : TakePost w rb (.slice (some ⟨b, off, none⟩) r.bs.length cap) r cap (.returned (.slice (some ⟨b, off, none⟩) cap cap)) (w.setCell ⟨rb, 0, none⟩ (.slice (some ⟨b, off, none⟩) 0 0)) := by
        unfold TakePost
        rw [ET.out]
        exact ⟨_, _, rfl, ht.rds (rds_set0 H.out) hap, H.out.set0 hd hap HC.out.symm, rds_set0 H.out, hap, rfl⟩
      have F := Lib.hid fin
      clear fin ht hd
      have hz0 : r.bs.length - cap = 0 := by omega
      go_enter Try.func65, Try.ntmps65
      go_wp2
      go_ret
      exact F.out
    · have hd : Reads w (.slice (some ⟨b, off + n, none⟩) (r.bs.length - n) (cap - n)) (r.bs.drop n) := reads_drop n hl hlc hbb HX.out
      have fin : TakePost w rb (.slice (some ⟨b, off, none⟩) r.bs.length cap) r n (.returned (.slice (some ⟨b, off, none⟩) n cap)) (w.setCell ⟨rb, 0, none⟩ (.slice (some ⟨b, off + n, none⟩) (r.bs.length - n) (cap - n))) := by
        unfold TakePost
        rw [ET.out]
        exact ⟨_, _, rfl, ht.rds (rds_set0 H.out) hap, H.out.set0 hd hap HC.out.symm, rds_set0 H.out, hap, rfl⟩
      have F := Lib.hid fin
      clear fin ht hd
      go_enter Try.func65, Try.ntmps65
      go_wp2
      go_ret
      exact F.out

theorem frd_take (rb n : Nat) (v : Value) (r : Rd) (w : World) (h : RdAt w rb v r) (hb : rb < w.heap.size) (hn : n ≤ 1000) (hmx : r.bs.length ≤ 1000000000) :
    Calls Try.prog 65 #[.pointer (some ⟨rb, 0, none⟩), .int .i64 n] w (TakePost w rb v r n) := by
  by_cases hc : r.cut = true ∨ r.bs.length < n
  · exact frd_take_cut rb n v r w h hb hn hc
  · simp only [not_or, Bool.not_eq_true, Nat.not_lt] at hc
    exact frd_take_ok rb n v r w h hb hn hc.1 hc.2 hmx

end Go.Proofs.Ytehkgcmdndehaaa
