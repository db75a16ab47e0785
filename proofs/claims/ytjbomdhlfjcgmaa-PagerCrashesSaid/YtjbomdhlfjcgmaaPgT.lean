/-
  The law PagerSmall.
-/
import Derived.Test.YtjbomdhlfjcgmaaPgK
namespace Go.Proofs.Ytjbomdhlfjcgmaa
set_option linter.unusedSimpArgs false
set_option linter.unusedVariables false
open Go.RowKit

set_option maxRecDepth 100000 in
theorem law3_within (x : Int) (n : Nat) (h0 : 0 < n) (hn : n < 36028797018963968) (hx : (Lit.int .i64 x).wf = true) (w : World) : Calls Try.prog 16 #[.int .i64 x, .int .i64 n] w (fun e w' => ∃ r : Nat, r < n ∧ e = .returned (.int .i64 r) ∧ w = w') := by
  have hn0 : ¬ (n : Int) = 0 := by omega
  have h1 : (x.tmod n).natAbs < n := by
    rw [Int.natAbs_tmod]
    exact Nat.mod_lt _ h0
  by_cases hk : x.tmod n < 0
  · have HK : Hid (∃ r : Nat, r < n ∧ x.tmod n + n = (r : Int)) := Lib.hid ⟨(x.tmod n + n).toNat, by omega, by omega⟩
    have hlo : -(n : Int) < x.tmod n := by omega
    go_enter Try.func16, Try.ntmps16
    go_wp2
    obtain ⟨r, hr, e⟩ := HK.out
    go_ret
    exact ⟨r, hr, ret_int e, rfl⟩
  · have HK : Hid (∃ r : Nat, r < n ∧ x.tmod n = (r : Int)) := Lib.hid ⟨(x.tmod n).toNat, by omega, by omega⟩
    go_enter Try.func16, Try.ntmps16
    go_wp2
    obtain ⟨r, hr, e⟩ := HK.out
    go_ret
    exact ⟨r, hr, ret_int e, rfl⟩

/-- A block of noughts. -/
def zeros512 : Array Value := madeCells #[.int .u8 0] 512
theorem make_zeros (w : World) : (Instr.makeSlice 22 (.int .i64 512) (.int .i64 512)).run Try.prog w = .ok (.slice (some ⟨w.heap.size, 0, none⟩) 512 512) (w.alloc (.cells zeros512 5)) := by
  obtain ⟨i0, hi, hz0, hz1, hz2⟩ := info_parts infoU8
  have h := run_make (P := Try.prog) w 22 5 i0 (.int .u8 0) Try.underlying22 hi hz0 .i64 .i64 512 512 (by omega) (by omega) (by rw [hz2]; omega) (by omega)
  rw [hz1] at h
  exact h
theorem zeros512_reads (w : World) : Reads (w.alloc (.cells zeros512 5)) (.slice (some ⟨w.heap.size, 0, none⟩) 512 512) (zerosB 512) := by
  refine .inr ⟨w.heap.size, 0, 512, by rw [zerosB_length], by rw [zerosB_length]; exact Nat.le_refl _, by simp, fun i x hi => ?_⟩
  have h : i < 512 ∧ x = 0 := by
    unfold zerosB at hi
    rw [List.getElem?_replicate] at hi
    by_cases e : i < 512
    · rw [if_pos e] at hi; cases hi; exact ⟨e, rfl⟩
    · rw [if_neg e] at hi; cases hi
  rw [Nat.zero_add, World.cell?_alloc_at _ _ _ _ rfl, h.2]
  simp [zeros512, madeCells, h.1, Nat.mod_one]

theorem PgOn.disk {w w' : World} {pb db : Nat} {F G G' : Nat → Prop} {D D' : DiskS} {S : PgS} (h : PgOn w pb db F G D S) (hd : DkAt w' db G' D') (hm : Moves G G' w w') (hb : D'.blocks = D.blocks) : PgOn w' pb db F G' D' S :=
  ⟨hd, h.pg.keeps hm.keeps h.dis, by rw [hb]; exact h.bl, fun k hf hg => by
    rcases hm.new k hg with hk | hk
    · exact h.dis k hf hk
    · have := h.pg.lim k hf; omega⟩

theorem below_drewN (w : World) (n : Nat) {B : Nat} {w0 : World} (h : Below w0.heap.size w0 w) : Below w0.heap.size w0 (w.drewN n) := Keeps.below_new h ((Keeps.refl (fun _ => False) w).drewN n) (fun j h => h.elim)
theorem UpB.drewN {w0 w : World} {pb db : Nat} {F G : Nat → Prop} {D : DiskS} {S : PgS} {C : Comm} (h : UpB w0 w pb db F G D S C) (n : Nat) : UpB w0 (w.drewN n) pb db F G D S C :=
  ⟨⟨h.up.on.drewN n, h.up.inv⟩, below_drewN (B := 0) w n h.bel, h.own, h.alive, h.free⟩
theorem write_gone {D : DiskS} (hw : DiskWf D) (hd : D.dead = false) : (D.cut 0).write ((0 : Nat) : Int) (zerosB 512) = ({ D.cut 0 with dead := true }, 12) := by
  rw [DiskS.write_alive (D := D.cut 0) hd hw.lo (zerosB_length 512)]
  exact if_pos (show max (0 : Int) (-1) = 0 by omega)
theorem ok_gone {D : DiskS} {C : Comm} (h : DiskOk D C) : DiskOk { D.cut 0 with dead := true } C := (h.cut 0 (by omega)).same (h.cut 0 (by omega)).wf.kill rfl (fun _ _ => rfl)

set_option maxHeartbeats 3200000 in
set_option maxRecDepth 100000 in
theorem pagerSmall_walk (x : Int) (hx : (Lit.int .i64 x).wf = true) {w : World} : Calls Try.prog 4 #[.int .i64 x] w (fun e w' => e = .returned (.bool true) ∧ Below w.heap.size w w') := by
  have HW := Lib.hid (law3_within x 140 (by omega) (by omega) hx)
  clear hx
  go_enter Try.func4, Try.ntmps4
  go_upto_region 4 with (first
    | (go_at_call 9; go_must (refine (law3_known _).mono ?_; rintro e w1 ⟨rfl, hB⟩; have X1 := Lib.hid hB; clear hB))
    | (go_at_call 16; go_must (refine (HW.out _).mono ?_; rintro e w' ⟨r, hr, rfl, rfl⟩; have HR := Lib.hid hr; have hr' : (r : Int) < 140 := (by omega); clear hr)))
  have HN := dk_new (1 + r) (by omega) (by have := HR.out; omega) w1
  rw [show ((1 + r : Nat) : Int) = 1 + (r : Int) by omega] at HN
  have HN' := Lib.hid HN
  clear HN
  by_cases hs : 1 + r < 64
  · have hs' : (1 : Int) + (r : Int) < 64 := by omega
    have HS := Lib.hid hs
    clear hs
    go_wp2_with (first
      | (go_at_call 10; go_must (refine HN'.out.mono ?_; rintro e w2 ⟨rfl, hd, hB⟩; have X2 := Lib.hid (And.intro hd hB); clear hd hB))
      | (go_at_call 11; go_must (refine (pg_open_small X2.out.1 HS.out).mono ?_; rintro e w3 ⟨rfl, rfl⟩)))
    go_ret
    exact ⟨rfl, X1.out.trans (X2.out.2.mono X1.out.size)⟩
  · have hs' : ¬ (1 : Int) + (r : Int) < 64 := by omega
    have HS : Hid (64 ≤ 1 + r ∧ 1 + r ≤ 16384) := Lib.hid ⟨by omega, by have := HR.out; omega⟩
    have HNB := ub_new (1 + r) HS.out.1 HS.out.2 X1.out
    rw [show ((1 + r : Nat) : Int) = 1 + (r : Int) by omega] at HNB
    have HNB' := Lib.hid HNB
    clear hs HNB HN'
    go_upto_region 8 with (first
      | (go_at_call 10; go_must (refine HNB'.out.mono ?_; rintro e w2 ⟨db, G, rfl, hd⟩; have X2 := Lib.hid hd; clear hd))
      | (go_at_call 11; go_must (refine (ub_open X2.out).mono ?_; rintro e w3 ⟨pb, F, rfl, hup⟩; have X3 := Lib.hid hup; clear hup)))
    obtain ⟨L, hL⟩ : ∃ L, L = (loadS (DiskS.new (1 + r))).left := ⟨_, rfl⟩
    have hL2 : ¬ L < 1 + (r : Int) - 32 := by
      rw [hL, left_new X3.out.up.inv]
      have := firstN_le HS.out.2
      show ¬ ((1 + r : Nat) : Int) - (firstN (1 + r) : Nat) < _
      omega
    have HL := Lib.hid hL
    clear hL
    go_upto_region 10 with (first
      | (go_at_call 17; go_must (refine (up_seq X3.out.up).mono ?_; rintro e w' ⟨rfl, rfl⟩))
      | (go_at_call 15; go_must (refine (up_root X3.out.up).mono ?_; rintro e w4 ⟨v4, rfl, hr4, _, hB4⟩; obtain ⟨a4, c4, rfl⟩ := hr4.len; have X4 := Lib.hid (X3.out.below hB4); clear hr4 hB4))
      | (go_at_call 18; go_must (refine (pg_left X4.out.up.on X4.out.up.inv.left_le).mono ?_; rw [← HL.out]; rintro e w' ⟨rfl, m, rfl⟩)))
    obtain ⟨w5, hw5⟩ : ∃ w5, w5 = w4.drewN m := ⟨_, rfl⟩
    have X5 : Hid (UpB w w5 pb db F G (DiskS.new (1 + r)) (loadS (DiskS.new (1 + r))) Comm.new) := Lib.hid (by rw [hw5]; exact X4.out.drewN m)
    rw [← hw5]
    clear hw5
    have hmz := make_zeros
    go_upto_region 13 with (first
      | (go_at_call 19; go_must (refine (dk_cut X5.out.up.on.dk 0 (by omega)).mono ?_; rintro e w6 ⟨rfl, hd, hk⟩; have X6 := Lib.hid (And.intro hd (And.intro (X5.out.up.on.disk hd (Moves.of_keeps hk) rfl) (Keeps.below_new X5.out.bel hk (fun j hj => X5.out.own j (.inr hj))))); clear hd hk))
      | (go_at_call 20; go_must (have hwr := dk_write (X6.out.1.below (below_any w6 _)) 0 (by show 0 < 1 + r; omega) _ (zerosB 512) (zeros512_reads w6) (zerosB_length 512) (fun k hk hg => by (have e : w6.heap.size = k := (by simpa [Value.ownBlock] using hk)); have := X6.out.1.lim k hg; omega); rw [write_gone X5.out.up.on.dk.wf rfl] at hwr; refine hwr.mono ?_; rintro e w7 ⟨rfl, G7, hd7, hm7⟩; have X7 := Lib.hid (And.intro hd7 (And.intro ((X6.out.2.1.below (below_any w6 _)).disk hd7 hm7 rfl) (Keeps.below_new (X6.out.2.2.trans ((below_any w6 _).mono X6.out.2.2.size)) hm7.keeps (fun j hj => X5.out.own j (.inr hj))))); clear hwr hd7 hm7))
      | (go_at_call 11; go_must (refine (up_open_dead X7.out.1 (ok_gone X5.out.up.inv.ok) rfl).mono ?_; rintro e w8 ⟨rfl, hB⟩; have X8 := Lib.hid (And.intro (X7.out.2.1.below hB) (X7.out.2.2.trans (hB.mono X7.out.2.2.size))); clear hB)))
    go_wp2_with (go_at_call 13; go_must (refine (pg_commit_dead X8.out.1 rfl _).mono ?_; rintro e w' ⟨rfl, rfl⟩))
    go_ret
    exact ⟨rfl, X8.out.2⟩
end Go.Proofs.Ytjbomdhlfjcgmaa
