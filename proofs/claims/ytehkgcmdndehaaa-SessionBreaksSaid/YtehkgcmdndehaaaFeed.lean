import Derived.Test.YtehkgcmdndehaaaSesD
import Derived.Test.YtehkgcmdndehaaaRegW
import Derived.Deep.DeepCutAuto
import Derived.Deep.CutBlock
import Derived.Great.Walk
import Derived.Deep.QuietTactic
import Derived.BigQuiet
namespace Go.Proofs.Ytehkgcmdndehaaa
set_option linter.unusedSimpArgs false
set_option linter.unusedVariables false
open Go.RowKit
attribute [local irreducible] feedAll feedL parseReqC itemCells frameN

/-- Items as a row of cells. -/
def itemsV (xs : List (List Value)) : List Value := xs.flatMap id
/-- What Feed leaves. -/
def FeedPost (W : World) (b : Nat) (v : Value) (xs : List (List Value)) (bs : List UInt8) (brk : Bool) (e : Ending) (W' : World) : Prop :=
  ∃ v' out, e = .returned out ∧ SesAt W' b 1 v' bs brk ∧ Fed W W' b v v' ∧ W'.ownsRow W.heap.size 56 19 out xs.length (itemsV xs)

/-- A round's head. -/
structure FeedRel (W3 wr : World) (b : Nat) (v2 : Value) (R : List (List Value) × List UInt8 × Bool) (out : Value) (xs : List (List Value)) (bj : List UInt8) (vj : Value) : Prop where
  eq : R = (xs ++ (feedAll bj).1, (feedAll bj).2)
  ses : SesAt wr b 1 vj bj false
  same : vj.ownBlock = v2.ownBlock
  fed : Fed W3 wr b v2 vj
  own : wr.ownsRow W3.heap.size 56 19 out xs.length (itemsV xs)
  le : xs.length + bj.length ≤ 1000000

set_option maxHeartbeats 3200000 in
set_option maxRecDepth 100000 in
theorem ses_feed (b : Nat) (d : Int) (v : Value) (bs : List UInt8) (vb : Value) (zs : List UInt8) (W : World) (h : SesAt W b d v bs false) (hd : d = 1 ∨ (d = 0 ∧ v = .slice none 0 0 ∧ bs = [])) (hz : Reads W vb zs) (hvb : vb.ownBlock ≠ some b ∧ ∀ k, vb.ownBlock = some k → v.ownBlock ≠ some k) (hl : (bs ++ zs).length ≤ 1000000) :
    Calls Try.prog 24 #[.pointer (some ⟨b, 0, none⟩), vb] W (FeedPost W b v (feedAll (bs ++ zs)).1 (feedAll (bs ++ zs)).2.1 (feedAll (bs ++ zs)).2.2) := by
  have hmf : ∀ (fn : Fn) (first cap : Array Value) (w : World), (Instr.makeFunc fn first cap).run Try.prog w = .ok (.func fn first cap) w := fun _ _ _ _ => rfl
  have H := Lib.hid (And.intro h (And.intro hd (And.intro hz hvb)))
  clear h hd hz hvb
  obtain ⟨aB, cB, hvb⟩ := H.out.2.2.1.len
  subst hvb
  go_enter Try.func24, Try.ntmps24
  go_upto_region 1 with (fail)
  have hBa := below_alloc W (.cells #[.pointer (some ⟨b, 0, none⟩)] 50)
  have hp0 : (W.alloc (.cells #[.pointer (some ⟨b, 0, none⟩)] 50)).cell? ⟨W.heap.size, 0, none⟩ = some (.pointer (some ⟨b, 0, none⟩)) := by rw [World.cell?_alloc_at _ _ _ _ rfl]; rfl
  generalize W.alloc (.cells #[.pointer (some ⟨b, 0, none⟩)] 50) = W0 at *
  have X0 : Hid (SesAt W0 b d v bs false ∧ Below W.heap.size W W0 ∧ W.heap.size ≠ b ∧ v.ownBlock ≠ some W.heap.size ∧ W.heap.size < W0.heap.size) := Lib.hid ⟨H.out.1.on hBa, hBa, by have := H.out.1.lt; omega, fun e => by have := H.out.1.own.lt _ e; omega, World.block_lt_of_cell? W0 _ hp0⟩
  have P0 := Lib.hid hp0
  clear hBa
  generalize hpl : W.heap.size = pl at *
  have HPL := Lib.hid hpl
  clear hpl
  go_upto_region 2 with (go_at_call 51; refine (ses_once ⟨pl, 0, none⟩ X0.out.1 H.out.2.1 P0.out X0.out.2.2.1).mono ?_; rintro e w1 ⟨v1, rfl, hs, hf⟩; have X1 := Lib.hid (And.intro hs hf); clear hs hf)
  have k0 : w1.cell? ⟨pl, 0, none⟩ = some (.pointer (some ⟨b, 0, none⟩)) := (X1.out.2.cell (a := ⟨pl, 0, none⟩) X0.out.2.2.2.2 X0.out.2.2.1 X0.out.2.2.2.1).trans P0.out
  have c3 := X1.out.1.c3
  have c4 := X1.out.1.c4
  have f3 := X1.out.1.frz 3
  have hl1 : Fits (bs.length + zs.length) := fits_of _ (by rw [List.length_append] at hl; omega)
  have hb1 : b + 1 ≤ w1.heap.size := X1.out.1.lt
  have ZR : Hid (Reads w1 (.slice aB zs.length cB) zs) := Lib.hid ((H.out.2.2.1.below (by rw [HPL.out]; exact X0.out.2.1)).fed X1.out.2 H.out.2.2.2.1 H.out.2.2.2.2)
  generalize hR : feedAll (bs ++ zs) = R at *
  have HR := Lib.hid hR
  clear hR
  have hplv : Hid (v1.ownBlock ≠ some pl) := Lib.hid (by
    have h2 := X0.out.2.2.2.1; have h3 := X0.out.2.2.2.2
    rcases X1.out.2.new with h | h | ⟨m, h, hm⟩
    · rw [h]; exact h2
    · rw [h]; exact fun e => by cases e
    · rw [h]; exact fun e => by cases e; omega)
  have hpb3 : Hid ((⟨b, 3, none⟩ : Addr) ≠ ⟨pl, 0, none⟩) := Lib.hid (fun e => by cases e)
  go_upto_region 4 with (fail)
  refine wp_region_held_drew (S := fun w' : World => w'.cell? ⟨pl, 0, none⟩ = some (.pointer (some ⟨b, 0, none⟩))) (by kernel_rfl) k0 (fun hHeld => ?_)
  have qS := hHeld
  clear hHeld
  refine wpAnyH_take (i := 0) (oi := { dst := some 18, op := Op.load 50 (.tmp 2), type := 50, pos := "session.go:36", after := #[], guard := none }) (v := ?_) rfl (by kernel_rfl) (by kernel_rfl) (by kernel_rfl) (fun _ _ _ h => h) (Or.inl ⟨by rfl, ?_⟩) qS ?_
  rotate_left
  · intro w hSw
    (try dsimp only at hSw)
    go_simp
    all_goals with_reducible rfl
  simp only [Act.put, List.setIfInBounds_toArray, List.set_cons_zero, List.set_cons_succ]
  refine wpAnyH_take (i := 1) (oi := { dst := some 19, op := Op.load 50 (.tmp 2), type := 50, pos := "session.go:36", after := #[], guard := none }) (v := ?_) rfl (by kernel_rfl) (by kernel_rfl) (by kernel_rfl) (fun _ _ _ h => h) (Or.inl ⟨by rfl, ?_⟩) qS ?_
  rotate_left
  · intro w hSw
    (try dsimp only at hSw)
    go_simp
    all_goals with_reducible rfl
  simp only [Act.put, List.setIfInBounds_toArray, List.set_cons_zero, List.set_cons_succ]
  refine wpAnyH_take (i := 2) (oi := { dst := some 20, op := Op.nilCheck (.tmp 19), type := 0, pos := "session.go:36", after := #[{ on := 1, ground := .data }], guard := none }) (v := ?_) rfl (by kernel_rfl) (by kernel_rfl) (by kernel_rfl) (fun _ _ _ h => h) (Or.inl ⟨by rfl, ?_⟩) qS ?_
  rotate_left
  · intro w hSw
    (try dsimp only at hSw)
    go_simp
    all_goals with_reducible rfl
  simp only [Act.put, List.setIfInBounds_toArray, List.set_cons_zero, List.set_cons_succ]
  refine wpAnyH_take (i := 3) (oi := { dst := some 21, op := Op.fieldAddr 112 (.tmp 20) 1, type := 0, pos := "session.go:36", after := #[{ on := 2, ground := .data }], guard := none }) (v := ?_) rfl (by kernel_rfl) (by kernel_rfl) (by kernel_rfl) (fun _ _ _ h => h) (Or.inl ⟨by rfl, ?_⟩) qS ?_
  rotate_left
  · intro w hSw
    (try dsimp only at hSw)
    go_simp
    all_goals with_reducible rfl
  simp only [Act.put, List.setIfInBounds_toArray, List.set_cons_zero, List.set_cons_succ]
  refine wpAnyH_take (i := 5) (oi := { dst := some 23, op := Op.move (.tmp 1), type := 28, pos := "session.go:36", after := #[], guard := none }) (v := ?_) rfl (by kernel_rfl) (by kernel_rfl) (by kernel_rfl) (fun _ _ _ h => h) (Or.inl ⟨by rfl, ?_⟩) qS ?_
  rotate_left
  · intro w hSw
    (try dsimp only at hSw)
    go_simp
    all_goals with_reducible rfl
  simp only [Act.put, List.setIfInBounds_toArray, List.set_cons_zero, List.set_cons_succ]
  refine H_one (i := 4) (o := { dst := some 22, op := Op.load 28 (.tmp 21), type := 28, pos := "session.go:36", after := #[{ on := 3, ground := .data }], guard := none }) (by kernel_rfl) rfl (fun K hK => ?_)
  go_simp
  (try go_simp)
  refine hK.out _ _ qS ?_
  clear hK K
  (try simp only [Act.put, List.setIfInBounds_toArray, List.set_cons_zero, List.set_cons_succ])
  have qS2 := qS
  clear qS
  have qS := qS2
  clear qS2
  refine H_one (i := 6) (o := { dst := some 24, op := Op.call { callee := Callee.builtin Builtin.append, args := #[.tmp 22, .tmp 23], argTypes := #[28, 28] }, type := 28, pos := "session.go:36", after := #[{ on := 4, ground := .data }, { on := 5, ground := .data }], guard := none }) (by kernel_rfl) rfl (fun K hK => ?_)
  refine step_append_bytes _ rfl (.tmp 22) (.tmp 23) rfl rfl (b + 1) v1 bs rfl (by exact X1.out.1.own) (.slice aB zs.length cB) zs rfl (by exact ZR.out) hl1 (by exact hb1) ?_
  intro v2 w2 ho2 hg2
  obtain ⟨a2, c2, hv2⟩ := (Reads.of_own ho2).len
  subst hv2
  have G2 : Hid (Grew w1 w2 v1 (.slice a2 (bs ++ zs).length c2)) := Lib.hid hg2.undrew
  have O2 := Lib.hid ho2
  have k02 : w2.cell? ⟨pl, 0, none⟩ = some (.pointer (some ⟨b, 0, none⟩)) := (G2.out.cell (a := ⟨pl, 0, none⟩) (World.block_lt_of_cell? w1 _ k0) hplv.out).trans k0
  have c32 : w2.cell? ⟨b, 3, none⟩ = some v1 := (G2.out.cell (a := ⟨b, 3, none⟩) X1.out.1.lt X1.out.1.apart).trans c3
  have f32 : w2.frozen? ⟨b, 3, none⟩ = false := (World.frozen?_of_block (G2.out.block b X1.out.1.lt X1.out.1.apart)).trans f3
  clear hg2 ho2
  (try go_simp)
  refine hK.out _ _ k02 ?_
  clear hK K
  (try simp only [Act.put, List.setIfInBounds_toArray, List.set_cons_zero, List.set_cons_succ])
  have qS2 := k02
  clear qS
  have qS := qS2
  clear qS2
  refine wpAnyH_take (i := 7) (oi := { dst := some 25, op := Op.nilCheck (.tmp 18), type := 0, pos := "session.go:36", after := #[{ on := 0, ground := .data }, { on := 0, ground := .phase }, { on := 1, ground := .phase }, { on := 2, ground := .phase }, { on := 3, ground := .phase }, { on := 4, ground := .phase }, { on := 5, ground := .phase }, { on := 6, ground := .phase }], guard := none }) (v := ?_) rfl (by kernel_rfl) (by kernel_rfl) (by kernel_rfl) (fun _ _ _ h => h) (Or.inl ⟨by rfl, ?_⟩) qS ?_
  rotate_left
  · intro w hSw
    (try dsimp only at hSw)
    go_simp
    all_goals with_reducible rfl
  simp only [Act.put, List.setIfInBounds_toArray, List.set_cons_zero, List.set_cons_succ]
  refine wpAnyH_take (i := 8) (oi := { dst := some 26, op := Op.fieldAddr 112 (.tmp 25) 1, type := 0, pos := "session.go:36", after := #[{ on := 7, ground := .data }, { on := 0, ground := .phase }, { on := 1, ground := .phase }, { on := 2, ground := .phase }, { on := 3, ground := .phase }, { on := 4, ground := .phase }, { on := 5, ground := .phase }, { on := 6, ground := .phase }], guard := none }) (v := ?_) rfl (by kernel_rfl) (by kernel_rfl) (by kernel_rfl) (fun _ _ _ h => h) (Or.inl ⟨by rfl, ?_⟩) qS ?_
  rotate_left
  · intro w hSw
    (try dsimp only at hSw)
    go_simp
    all_goals with_reducible rfl
  simp only [Act.put, List.setIfInBounds_toArray, List.set_cons_zero, List.set_cons_succ]
  refine H_one (i := 9) (o := { dst := none, op := Op.store 28 (.tmp 26) (.tmp 24), type := 0, pos := "session.go:36", after := #[{ on := 8, ground := .data }, { on := 6, ground := .data }, { on := 6, ground := .chain }, { on := 0, ground := .phase }, { on := 1, ground := .phase }, { on := 2, ground := .phase }, { on := 3, ground := .phase }, { on := 4, ground := .phase }, { on := 5, ground := .phase }, { on := 6, ground := .phase }], guard := none }) (by kernel_rfl) rfl (fun K hK => ?_)
  go_simp
  (try go_simp)
  refine hK.out _ _ ((cell_set_ne hpb3.out).trans qS) ?_
  clear hK K
  (try simp only [Act.put, List.setIfInBounds_toArray, List.set_cons_zero, List.set_cons_succ])
  have qS2 := trivial
  clear qS
  have qS := qS2
  clear qS2
  refine wpAnyH_done (by kernel_rfl) ?_ _
  have hs3 := X1.out.1.grow O2.out G2.out
  have hlen3 : (bs ++ zs).length = bs.length + zs.length := List.length_append
  rw [hlen3] at hs3
  generalize w2.setCell ⟨b, 3, none⟩ (.slice a2 (bs.length + zs.length) c2) = W3 at *
  have k03 : Hid (W3.cell? ⟨pl, 0, none⟩ = some (.pointer (some ⟨b, 0, none⟩))) := Lib.hid ((hs3.2.cell (a := ⟨pl, 0, none⟩) (World.block_lt_of_cell? w1 _ k0) X0.out.2.2.1 hplv.out).trans k0)
  have FW : Hid (Fed W W3 b v (.slice a2 (bs.length + zs.length) c2)) := Lib.hid (((Fed.of_below (by rw [HPL.out]; exact X0.out.2.1)).trans X1.out.2).trans hs3.2)
  have S3 := Lib.hid hs3.1
  have HV3 : Hid ((Value.slice a2 (bs.length + zs.length) c2).ownBlock ≠ some pl ∧ pl < W3.heap.size ∧ pl ≠ b) := Lib.hid ⟨(by
    rcases G2.out.new with h | ⟨m, h, hm⟩
    · rw [hlen3] at h; rw [h]; exact hplv.out
    · rw [hlen3] at h; rw [h]; intro e; cases e; have := World.block_lt_of_cell? w1 _ k0; simp at this; omega), World.block_lt_of_cell? W3 _ k03.out, X0.out.2.2.1⟩
  clear hs3 G2 O2 X1 X0 k0 k02 c3 c32 c4 f3 f32 qS P0 ZR hl1 hb1 hplv hpb3
  generalize hbz : bs ++ zs = B at *
  have HB := Lib.hid hbz
  clear hbz
  generalize hv2 : Value.slice a2 (bs.length + zs.length) c2 = v2 at *
  go_wp2
  go_loopg [5, 6, 7, 8] (B.length + 1) (fun g s5 s6 s7 s8 wr => ∃ (xs : List (List Value)) (bj : List UInt8) (vj : Value), bj.length < g ∧ FeedRel W3 wr b v2 R s5 xs bj vj)
  case atStart => exact ⟨[], B, v2, by omega, ⟨by rw [← HR.out]; rfl, S3.out, rfl, Fed.refl _ _ _, World.ownsRow_nil _ _ _ _, by simpa using hl⟩⟩
  case round =>
    obtain ⟨xs, bj, vj, hg, hrel⟩ := hrel
    have kp : wr.cell? ⟨pl, 0, none⟩ = some (.pointer (some ⟨b, 0, none⟩)) := (hrel.fed.cell (a := ⟨pl, 0, none⟩) HV3.out.2.1 HV3.out.2.2 HV3.out.1).trans k03.out
    obtain ⟨aj, cj, hvj⟩ := (Reads.of_own hrel.ses.own).len
    subst hvj
    have c3 := hrel.ses.c3
    have HL := Lib.hid hrel
    by_cases h2 : bj.length < 2
    · have hn : ¬ 2 ≤ bj.length := by omega
      have FIN : Hid (FeedPost W b v R.1 R.2.1 R.2.2 (.returned u5) wr) := Lib.hid (by
        rw [HL.out.eq, feedAll_few bj h2]
        simp only [List.append_nil]
        exact ⟨_, _, rfl, HL.out.ses, FW.out.trans HL.out.fed, ownsRow_base HL.out.own FW.out.size⟩)
      clear hrel hg h2
      go_wp2
      go_ret
      exact FIN.out
    · have hn : 2 ≤ bj.length := by omega
      obtain ⟨gj, capj, hform, hgb, hglt⟩ := hrel.ses.own.form (by omega)
      cases hform
      have q0 : wr.cell? ⟨gj, 0, none⟩ = some (.int .u8 (((bj.getD 0 0).toNat : Nat) : Int)) := hrel.ses.own.cells (g := gj) rfl 0 _ (by simp [bcells, List.getD, show 0 < bj.length by omega])
      have q1 : wr.cell? ⟨gj, 1, none⟩ = some (.int .u8 (((bj.getD 1 0).toNat : Nat) : Int)) := hrel.ses.own.cells (g := gj) rfl 1 _ (by simp [bcells, List.getD, show 1 < bj.length by omega])
      have i0 : 0 < bj.length := by omega
      have i1 : 1 < bj.length := by omega
      have b0 : (bj.getD 0 0).toNat ≤ 255 := by have := (bj.getD 0 0).toNat_lt; omega
      have b1 : (bj.getD 1 0).toNat ≤ 255 := by have := (bj.getD 1 0).toNat_lt; omega
      have HFN : Hid (frameN bj = (bj.getD 0 0).toNat * 256 + (bj.getD 1 0).toNat) := Lib.hid (by unfold frameN; rfl)
      have HG2 := Lib.hid (And.intro hg (And.intro h2 (And.intro hgb hglt)))
      clear hrel hg h2 hgb hglt
      generalize (bj.getD 0 0).toNat = x0 at *
      generalize (bj.getD 1 0).toNat = x1 at *
      go_upto_region 7 with (fail)
      go_quiet (fail)
      obtain ⟨N, hN⟩ : ∃ N : Nat, x0 * 256 + x1 = N := ⟨_, rfl⟩
      have HFN2 : Hid (frameN bj = N) := Lib.hid (by rw [HFN.out, hN])
      have hNI := or_frame x0 x1 b0 b1
      rw [hN] at hNI
      rw [hNI]
      have hNle : N ≤ 65535 := by omega
      clear hNI hN b0 b1 q0 q1
      have kpU : (wr.drewN nq).cell? ⟨pl, 0, none⟩ = some (.pointer (some ⟨b, 0, none⟩)) := kp
      have sU : SesAt (wr.drewN nq) b 1 (.slice (some ⟨gj, 0, none⟩) bj.length cj) bj false := ⟨HL.out.ses.c0, HL.out.ses.c1, HL.out.ses.c3, HL.out.ses.c4, HL.out.ses.frz, HL.out.ses.lt, HL.out.ses.own⟩
      have fU : Fed W3 (wr.drewN nq) b v2 (.slice (some ⟨gj, 0, none⟩) bj.length cj) := ⟨HL.out.fed.os, HL.out.fed.tape, HL.out.fed.output, HL.out.fed.size, HL.out.fed.block, HL.out.fed.new⟩
      have oU : (wr.drewN nq).ownsRow W3.heap.size 56 19 u5 xs.length (itemsV xs) := HL.out.own
      have REQ := Lib.hid HL.out.eq
      have SAME := Lib.hid HL.out.same
      have BLE := Lib.hid HL.out.le
      obtain ⟨U, hU⟩ : ∃ U : World, wr.drewN nq = U := ⟨_, rfl⟩
      rw [hU] at kpU sU fU oU ⊢
      clear hU HL kp c3
      have c3 := sU.c3
      have c4 := sU.c4
      have f3 := sU.frz 3
      have f4 := sU.frz 4
      have HU := Lib.hid (And.intro sU (And.intro fU oU))
      clear sU fU oU
      by_cases hbad : N = 0 ∨ 512 < N
      · have hsp : Hid (feedAll bj = ([errItem], [], true)) := Lib.hid (feedAll_bad bj HG2.out.2.1 (by rw [HFN2.out]; exact hbad))
        by_cases hN0 : N = 0
        case' pos =>
          have g0 : ((N : Int) == 0) = true := by rw [hN0]; rfl
          clear hN0 hbad
          go_upto_region 9 with (fail)
        case' neg =>
          have g0 : ((N : Int) == 0) = false := by rw [beq_eq_false_iff_ne]; omega
          have g1 : (512 : Int) < (N : Int) := by omega
          clear hN0 hbad
          go_upto_region 9 with (fail)
        all_goals
          refine wp_region_held_drew (S := fun w' : World => w'.cell? ⟨pl, 0, none⟩ = some (.pointer (some ⟨b, 0, none⟩))) (by kernel_rfl) kpU (fun hHeld => ?_)
          have qS := hHeld
          clear hHeld
          refine wpAnyH_take (i := 0) (oi := { dst := some 55, op := Op.load 50 (.tmp 2), type := 50, pos := "session.go:41", after := #[], guard := none }) (v := ?_) rfl (by kernel_rfl) (by kernel_rfl) (by kernel_rfl) (fun _ _ _ h => h) (Or.inl ⟨by rfl, ?_⟩) qS ?_
          rotate_left
          · intro w hSw
            (try dsimp only at hSw)
            go_simp
            all_goals with_reducible rfl
          simp only [Act.put, List.setIfInBounds_toArray, List.set_cons_zero, List.set_cons_succ]
          refine wpAnyH_take (i := 1) (oi := { dst := some 56, op := Op.load 50 (.tmp 2), type := 50, pos := "session.go:41", after := #[{ on := 4, ground := .gcOnly .lateStores }], guard := none }) (v := ?_) rfl (by kernel_rfl) (by kernel_rfl) (by kernel_rfl) (fun _ _ _ h => h) (Or.inl ⟨by rfl, ?_⟩) qS ?_
          rotate_left
          · intro w hSw
            (try dsimp only at hSw)
            go_simp
            all_goals with_reducible rfl
          simp only [Act.put, List.setIfInBounds_toArray, List.set_cons_zero, List.set_cons_succ]
          refine wpAnyH_take (i := 2) (oi := { dst := some 57, op := Op.nilCheck (.tmp 55), type := 0, pos := "session.go:41", after := #[{ on := 0, ground := .data }, { on := 0, ground := .phase }, { on := 1, ground := .textOnly .lateStores }], guard := none }) (v := ?_) rfl (by kernel_rfl) (by kernel_rfl) (by kernel_rfl) (fun _ _ _ h => h) (Or.inl ⟨by rfl, ?_⟩) qS ?_
          rotate_left
          · intro w hSw
            (try dsimp only at hSw)
            go_simp
            all_goals with_reducible rfl
          simp only [Act.put, List.setIfInBounds_toArray, List.set_cons_zero, List.set_cons_succ]
          refine wpAnyH_take (i := 3) (oi := { dst := some 58, op := Op.fieldAddr 112 (.tmp 57) 2, type := 0, pos := "session.go:41", after := #[{ on := 2, ground := .data }, { on := 0, ground := .phase }, { on := 1, ground := .textOnly .lateStores }], guard := none }) (v := ?_) rfl (by kernel_rfl) (by kernel_rfl) (by kernel_rfl) (fun _ _ _ h => h) (Or.inl ⟨by rfl, ?_⟩) qS ?_
          rotate_left
          · intro w hSw
            (try dsimp only at hSw)
            go_simp
            all_goals with_reducible rfl
          simp only [Act.put, List.setIfInBounds_toArray, List.set_cons_zero, List.set_cons_succ]
          refine H_one (i := 4) (o := { dst := none, op := Op.store 4 (.tmp 58) (.const (Value.bool true)), type := 0, pos := "session.go:41", after := #[{ on := 3, ground := .data }, { on := 0, ground := .phase }, { on := 1, ground := .textOnly .lateStores }], guard := none }) (by kernel_rfl) rfl (fun K hK => ?_)
          go_simp
          (try go_simp)
          refine hK.out _ _ ((cell_set_ne (fun e => by cases e)).trans qS) ?_
          clear hK K
          (try simp only [Act.put, List.setIfInBounds_toArray, List.set_cons_zero, List.set_cons_succ])
          have qS2 := ((cell_set_ne (v := .bool true) (fun e : (⟨b, 4, none⟩ : Addr) = ⟨pl, 0, none⟩ => by cases e)).trans qS)
          clear qS
          have qS := qS2
          clear qS2
          refine wpAnyH_take (i := 5) (oi := { dst := some 59, op := Op.nilCheck (.tmp 56), type := 0, pos := "session.go:41", after := #[{ on := 1, ground := .data }, { on := 0, ground := .phase }, { on := 1, ground := .phase }, { on := 2, ground := .phase }, { on := 3, ground := .phase }, { on := 4, ground := .phase }], guard := none }) (v := ?_) rfl (by kernel_rfl) (by kernel_rfl) (by kernel_rfl) (fun _ _ _ h => h) (Or.inl ⟨by rfl, ?_⟩) qS ?_
          rotate_left
          · intro w hSw
            (try dsimp only at hSw)
            go_simp
            all_goals with_reducible rfl
          simp only [Act.put, List.setIfInBounds_toArray, List.set_cons_zero, List.set_cons_succ]
          refine wpAnyH_take (i := 6) (oi := { dst := some 60, op := Op.fieldAddr 112 (.tmp 59) 1, type := 0, pos := "session.go:41", after := #[{ on := 5, ground := .data }, { on := 0, ground := .phase }, { on := 1, ground := .phase }, { on := 2, ground := .phase }, { on := 3, ground := .phase }, { on := 4, ground := .phase }], guard := none }) (v := ?_) rfl (by kernel_rfl) (by kernel_rfl) (by kernel_rfl) (fun _ _ _ h => h) (Or.inl ⟨by rfl, ?_⟩) qS ?_
          rotate_left
          · intro w hSw
            (try dsimp only at hSw)
            go_simp
            all_goals with_reducible rfl
          simp only [Act.put, List.setIfInBounds_toArray, List.set_cons_zero, List.set_cons_succ]
          refine H_one (i := 7) (o := { dst := none, op := Op.store 28 (.tmp 60) (.const (Value.slice none 0 0)), type := 0, pos := "session.go:41", after := #[{ on := 6, ground := .data }, { on := 4, ground := .chain }, { on := 0, ground := .phase }, { on := 1, ground := .phase }, { on := 2, ground := .phase }, { on := 3, ground := .phase }, { on := 4, ground := .phase }], guard := none }) (by kernel_rfl) rfl (fun K hK => ?_)
          go_simp
          (try go_simp)
          refine hK.out _ _ ((cell_set_ne (fun e => by cases e)).trans qS) ?_
          clear hK K
          (try simp only [Act.put, List.setIfInBounds_toArray, List.set_cons_zero, List.set_cons_succ])
          have qS2 := trivial
          clear qS
          have qS := qS2
          clear qS2
          refine wpAnyH_done (by kernel_rfl) ?_ _
          have m1 : Mods U (U.setCell ⟨b, 4, none⟩ (.bool true)) b (fun o => o = 4) := Mods.of_setCell rfl
          have m2 : Mods (U.setCell ⟨b, 4, none⟩ (.bool true)) ((U.setCell ⟨b, 4, none⟩ (.bool true)).setCell ⟨b, 3, none⟩ (.slice none 0 0)) b (fun o => o = 3) := Mods.of_setCell rfl
          have hub : u5.ownBlock ≠ some b := fun e => by have := HU.out.2.2.lt b e; have := S3.out.lt; omega
          have o1 := ownsRow_setCell_other (w := U) HU.out.2.2 (a := ⟨b, 4, none⟩) hub (.bool true)
          have o2 := ownsRow_setCell_other o1 (a := ⟨b, 3, none⟩) hub (.slice none 0 0)
          have sV : SesAt ((U.setCell ⟨b, 4, none⟩ (.bool true)).setCell ⟨b, 3, none⟩ (.slice none 0 0)) b 1 (.slice none 0 0) [] true :=
            ⟨(m2.row 0 (by omega)).trans ((m1.row 0 (by omega)).trans HU.out.1.c0), (m2.row 1 (by omega)).trans ((m1.row 1 (by omega)).trans HU.out.1.c1), cell_set_same ((m1.row 3 (by omega)).trans HU.out.1.c3), (m2.row 4 (by omega)).trans (cell_set_same HU.out.1.c4), fun o => (m2.frz o).trans ((m1.frz o).trans (HU.out.1.frz o)), Nat.lt_of_lt_of_le HU.out.1.lt (Nat.le_trans m1.size m2.size), OwnB.nil _ _⟩
          have fV : Fed W3 ((U.setCell ⟨b, 4, none⟩ (.bool true)).setCell ⟨b, 3, none⟩ (.slice none 0 0)) b v2 (.slice none 0 0) :=
            (HU.out.2.1.trans (Fed.of_mods m1 (v' := (.slice (some ⟨gj, 0, none⟩) bj.length cj)) (.inl rfl))).trans (Fed.of_mods m2 (.inr (.inl rfl)))
          generalize (U.setCell ⟨b, 4, none⟩ (.bool true)).setCell ⟨b, 3, none⟩ (.slice none 0 0) = V at *
          have HV := Lib.hid (And.intro sV (And.intro fV o2))
          clear m1 m2 hub o1 o2 sV fV HU c3 c4 f3 f4 kpU qS
          have hsV : W3.heap.size ≤ V.heap.size := HV.out.2.1.size
          have hcnt : xs.length ≤ 1000000 := by have := BLE.out; omega
          have hEl : errItem.length = 19 := rfl
          go_wp2_with (at_builtin; go_must (refine wpList_append_item _ rfl (.tmp 61) (.tmp 63) rfl rfl W3.heap.size u5 xs.length (itemsV xs) errItem rfl (by exact (HV.out.2.2.alloc _).drew) hEl errItem_one V.heap.size rfl (by exact heap_alloc_new _ _) hcnt (by simp; omega) ?_)
                       intro vo wo ho hbo
                       have hbV : Below W3.heap.size V wo := ((below_alloc V _).drew.mono hsV).trans hbo
                       have FIN : Hid (FeedPost W b v R.1 R.2.1 R.2.2 (.returned vo) wo) := Lib.hid (by
                         rw [REQ.out, hsp.out]
                         refine ⟨_, _, rfl, HV.out.1.onB S3.out.lt (fun k e => by cases e) hbV, FW.out.trans (HV.out.2.1.over hbV (Nat.le_refl _)), ?_⟩
                         have := ownsRow_base ho FW.out.size
                         simpa [itemsV] using this)
                       clear ho hbo hbV)
          go_ret
          exact FIN.out
      · have g0 : ((N : Int) == 0) = false := by rw [beq_eq_false_iff_ne]; omega
        have g1 : ¬ (512 : Int) < (N : Int) := by omega
        have hsum : IntKind.i64.wrap (2 + (N : Int)) = 2 + (N : Int) := IntWalk.i64_in _ (by omega)
        by_cases hw : bj.length < 2 + N
        · have FIN : Hid (FeedPost W b v R.1 R.2.1 R.2.2 (.returned u5) U) := Lib.hid (by
            rw [REQ.out, feedAll_wait bj HG2.out.2.1 (by rw [HFN2.out]; exact hbad) (by rw [HFN2.out]; exact hw)]
            simp only [List.append_nil]
            exact ⟨_, _, rfl, HU.out.1, FW.out.trans HU.out.2.1, ownsRow_base HU.out.2.2 FW.out.size⟩)
          have g2 : (bj.length : Int) < 2 + (N : Int) := by omega
          clear hw hbad
          go_wp2
          go_ret
          exact FIN.out
        · have g2 : ¬ (bj.length : Int) < 2 + (N : Int) := by omega
          have hN1 : 1 ≤ N := by omega
          have hlN : 2 + N ≤ bj.length := by omega
          have hcap : bj.length ≤ cj := by
            rcases HU.out.1.own.2 with ⟨h, _⟩ | ⟨g', cap', cur, h, _, _, hn, _⟩
            · cases h
            · cases h; exact hn
          have RS : Hid (Reads U (.slice (some ⟨gj, 2, none⟩) N (cj - 2)) ((bj.drop 2).take N)) := Lib.hid (by
            refine .inr ⟨gj, 2, cj - 2, by rw [List.length_take, List.length_drop]; congr 1; omega, by rw [List.length_take, List.length_drop]; omega, (HU.out.1.own.lt gj rfl).2, fun i x hi => ?_⟩
            rw [List.getElem?_take] at hi
            split at hi
            · rw [List.getElem?_drop] at hi
              have h2i := HU.out.1.own.cells (g := gj) rfl (2 + i) _ (by rw [bcells, List.getElem?_map, hi]; rfl)
              rwa [Addr.add_lit, Nat.zero_add] at h2i
            · cases hi)
          have hfi := feedAll_item bj HG2.out.2.1 (by rw [HFN2.out]; exact hbad) (by rw [HFN2.out]; exact hw)
          rw [HFN2.out] at hfi
          have hcall := fr_parse_req (.slice (some ⟨gj, 2, none⟩) N (cj - 2)) ((bj.drop 2).take N) U RS.out (by rw [List.length_take, List.length_drop]; have := BLE.out; omega)
          obtain ⟨q, hq⟩ := parseReqC_shape ((bj.drop 2).take N)
          generalize parseReqC ((bj.drop 2).take N) = pp at *
          obtain ⟨pl0, pe⟩ := pp
          simp only at hq
          subst hq
          have c12 : Hid (Calls Try.prog 29 #[.slice (some ⟨gj, 2, none⟩) N (cj - 2)] U fun e w' => e = .returned (.tuple #[.agg q.cells, .int .i64 pe]) ∧ Below U.heap.size U w') := Lib.hid (by
            have := hcall
            unfold PrPost at this
            simpa using this)
          have FI := Lib.hid hfi
          have HLN := Lib.hid (And.intro hlN (And.intro hw (And.intro hbad hN1)))
          have hc2 : ¬ cj = 2 := by omega
          have hs1 : 2 + N ≤ cj := by omega
          clear hfi hcall hw hbad
          go_upto_region 13 with (first
            | (go_at_call 29; refine c12.out.mono ?_; rintro e wP ⟨rfl, hB⟩; have BP := Lib.hid hB; clear hB)
            | (refine wpList_store_row rfl 25 (.tmp 7) (.tmp 82) rfl wP.heap.size q.cells rfl rfl 25 reqZ0.cells (heap_alloc_new _ _) (by kernel_rfl) rfl (req_one_cells _) ?_))
          change Code.wp _ _ _ _ ((wP.alloc (.cells reqZ0.cells 25)).setRow wP.heap.size q.cells)
          have hm := made_row wP q.cells reqZ0.cells 25
          generalize (wP.alloc (.cells reqZ0.cells 25)).setRow wP.heap.size q.cells = U2 at *
          have hB2 : Below U.heap.size U U2 := BP.out.trans (hm.1.mono BP.out.size)
          have X2 : Hid (SesAt U2 b 1 (.slice (some ⟨gj, 0, none⟩) bj.length cj) bj false ∧ Fed W3 U2 b v2 (.slice (some ⟨gj, 0, none⟩) bj.length cj) ∧ U2.ownsRow W3.heap.size 56 19 u5 xs.length (itemsV xs)) := Lib.hid
            ⟨HU.out.1.on hB2, HU.out.2.1.trans (Fed.of_below hB2), World.ownsRow.kept (row := none) HU.out.2.2 ⟨hB2.os, hB2.tape, hB2.output, hB2.size, fun k hk _ => hB2.block k hk⟩ (by cases hv : u5.ownBlock <;> simp)⟩
          have Y2 : Hid (U2.rangeAt wP.heap.size 0 q.cells.toList) := Lib.hid (fun j u hj => by rw [Nat.zero_add, cell_of_row _ _ _ _ _ _ hm.2.1]; simpa using hj)
          generalize wP.heap.size = rk at *
          clear hm hB2 BP c12 RS kpU c3 c4 f3 f4 HU
          have hsV : W3.heap.size ≤ U2.heap.size := X2.out.2.1.size
          have hcnt : xs.length ≤ 1000000 := by have := BLE.out; omega
          have hEl : (q.cells.toList ++ [Value.int .i64 pe]).length = 19 := rfl
          go_step
          go_step
          go_step
          go_step
          refine wpList_load_mid rfl 25 (.tmp 7) rfl rk 0 rfl q.cells.toList _ Y2.out Try.underlying25 rfl (by kernel_rfl) ?_
          trace "loaded"
          go_step
          go_step
          go_step
          refine wpList_build_at _ rfl 56 _ rfl (itemA q pe) (by kernel_rfl) ?_
          refine Great.wpList_buildSliceTo rfl 52 56 1 _ rfl U2.heap.size rfl _ rfl Try.underlying52 (itemA q pe) (by kernel_rfl) ?_
          refine wpList_append_item _ rfl (.tmp 84) (.tmp 88) rfl rfl W3.heap.size u5 xs.length (itemsV xs) (q.cells.toList ++ [Value.int .i64 pe]) rfl (by exact (X2.out.2.2.alloc _)) hEl (itemA_one q pe) U2.heap.size rfl (by exact heap_alloc_new _ _) hcnt (by simp; omega) ?_
          intro vo wo ho hbo
          have XO : Hid (wo.ownsRow W3.heap.size 56 19 vo (xs.length + 1) (itemsV xs ++ (q.cells.toList ++ [Value.int .i64 pe])) ∧ Below W3.heap.size U2 wo) := Lib.hid ⟨ho, ((below_alloc U2 _).mono hsV).trans hbo⟩
          clear ho hbo
          go_upto_region 14 with (fail)
          have kpo : wo.cell? ⟨pl, 0, none⟩ = some (.pointer (some ⟨b, 0, none⟩)) := (XO.out.2.cell (p := ⟨pl, 0, none⟩) HV3.out.2.1).trans ((X2.out.2.1.cell (a := ⟨pl, 0, none⟩) HV3.out.2.1 HV3.out.2.2 HV3.out.1).trans k03.out)
          have hvlt : ∀ k, (Value.slice (some ⟨gj, 0, none⟩) bj.length cj).ownBlock = some k → k < W3.heap.size := fun k hk => (S3.out.own.lt k (by rw [← SAME.out]; exact hk)).2
          have so : SesAt wo b 1 (.slice (some ⟨gj, 0, none⟩) bj.length cj) bj false := X2.out.1.onB S3.out.lt hvlt XO.out.2
          have XF : Hid (SesAt wo b 1 (.slice (some ⟨gj, 0, none⟩) bj.length cj) bj false ∧ Fed W3 wo b v2 (.slice (some ⟨gj, 0, none⟩) bj.length cj)) := Lib.hid ⟨so, X2.out.2.1.over XO.out.2 (Nat.le_refl _)⟩
          have c3 := so.c3
          have f3 := so.frz 3
          clear so hvlt hsV hEl Y2 X2
          have h20 : (0 : Int) ≤ 2 + (N : Int) := by omega
          have htn : (2 + (N : Int)).toNat = 2 + N := by omega
          have hgb : Hid (gj ≠ b ∧ gj ≠ pl) := Lib.hid ⟨by have := (XF.out.1.own.lt gj rfl).1; omega, fun e => HV3.out.1 (by rw [← SAME.out, e]; rfl)⟩
          have HCAP := Lib.hid hcap
          have hpb3 : Hid ((⟨b, 3, none⟩ : Addr) ≠ ⟨pl, 0, none⟩) := Lib.hid (fun e => by cases e)
          have HC : Hid (cj = 2 + N ∨ ¬ cj = 2 + N) := Lib.hid (by omega)
          have hsA : bj.length ≤ cj + (2 + N) := by omega
          rcases HC.out with hc | hc
          all_goals
            have HC2 := Lib.hid hc
            (try have hsB : ((bj.length - (2 + N) : Nat) : Int) ≤ 2 + (N : Int) := by omega)
            clear hc
            refine wp_region_anyL (S := (fun w' : World => w'.cell? ⟨pl, 0, none⟩ = some (.pointer (some ⟨b, 0, none⟩)) ∧ w'.cell? ⟨b, 3, none⟩ = some (.slice (some ⟨gj, 0, none⟩) bj.length cj))) 20 (by kernel_rfl) ⟨kpo, c3⟩ (fun hHeld => ?_)
            have qS := hHeld
            clear hHeld
            refine anyL_take (i := 0) (oi := { dst := some 90, op := Op.load 50 (.tmp 2), type := 50, pos := "session.go:49", after := #[], guard := none }) (v := ?_) rfl (by kernel_rfl) (by kernel_rfl) (by kernel_rfl) (fun _ _ _ h => h) (by kernel_rfl) (by kernel_rfl) (by kernel_rfl) (Or.inl ⟨by rfl, ?_⟩) qS ?_
            rotate_left
            · intro w hSw
              (try dsimp only at hSw)
              obtain ⟨hSw, hSw2⟩ := hSw
              go_simp
              all_goals with_reducible rfl
            simp only [Act.put, List.setIfInBounds_toArray, List.set_cons_zero, List.set_cons_succ]
            refine anyL_take (i := 1) (oi := { dst := some 91, op := Op.load 50 (.tmp 2), type := 50, pos := "session.go:49", after := #[], guard := none }) (v := ?_) rfl (by kernel_rfl) (by kernel_rfl) (by kernel_rfl) (fun _ _ _ h => h) (by kernel_rfl) (by kernel_rfl) (by kernel_rfl) (Or.inl ⟨by rfl, ?_⟩) qS ?_
            rotate_left
            · intro w hSw
              (try dsimp only at hSw)
              obtain ⟨hSw, hSw2⟩ := hSw
              go_simp
              all_goals with_reducible rfl
            simp only [Act.put, List.setIfInBounds_toArray, List.set_cons_zero, List.set_cons_succ]
            refine anyL_take (i := 2) (oi := { dst := some 92, op := Op.nilCheck (.tmp 91), type := 0, pos := "session.go:49", after := #[{ on := 1, ground := .data }], guard := none }) (v := ?_) rfl (by kernel_rfl) (by kernel_rfl) (by kernel_rfl) (fun _ _ _ h => h) (by kernel_rfl) (by kernel_rfl) (by kernel_rfl) (Or.inl ⟨by rfl, ?_⟩) qS ?_
            rotate_left
            · intro w hSw
              (try dsimp only at hSw)
              obtain ⟨hSw, hSw2⟩ := hSw
              go_simp
              all_goals with_reducible rfl
            simp only [Act.put, List.setIfInBounds_toArray, List.set_cons_zero, List.set_cons_succ]
            refine anyL_take (i := 3) (oi := { dst := some 93, op := Op.fieldAddr 112 (.tmp 92) 1, type := 0, pos := "session.go:49", after := #[{ on := 2, ground := .data }], guard := none }) (v := ?_) rfl (by kernel_rfl) (by kernel_rfl) (by kernel_rfl) (fun _ _ _ h => h) (by kernel_rfl) (by kernel_rfl) (by kernel_rfl) (Or.inl ⟨by rfl, ?_⟩) qS ?_
            rotate_left
            · intro w hSw
              (try dsimp only at hSw)
              obtain ⟨hSw, hSw2⟩ := hSw
              go_simp
              all_goals with_reducible rfl
            simp only [Act.put, List.setIfInBounds_toArray, List.set_cons_zero, List.set_cons_succ]
            refine anyL_take (i := 4) (oi := { dst := some 94, op := Op.load 28 (.tmp 93), type := 28, pos := "session.go:49", after := #[{ on := 3, ground := .data }], guard := none }) (v := ?_) rfl (by kernel_rfl) (by kernel_rfl) (by kernel_rfl) (fun _ _ _ h => h) (by kernel_rfl) (by kernel_rfl) (by kernel_rfl) (Or.inl ⟨by rfl, ?_⟩) qS ?_
            rotate_left
            · intro w hSw
              (try dsimp only at hSw)
              obtain ⟨hSw, hSw2⟩ := hSw
              go_simp
              all_goals with_reducible rfl
            simp only [Act.put, List.setIfInBounds_toArray, List.set_cons_zero, List.set_cons_succ]
            refine anyL_take (i := 5) (oi := { dst := some 95, op := Op.load 50 (.tmp 2), type := 50, pos := "session.go:49", after := #[], guard := none }) (v := ?_) rfl (by kernel_rfl) (by kernel_rfl) (by kernel_rfl) (fun _ _ _ h => h) (by kernel_rfl) (by kernel_rfl) (by kernel_rfl) (Or.inl ⟨by rfl, ?_⟩) qS ?_
            rotate_left
            · intro w hSw
              (try dsimp only at hSw)
              obtain ⟨hSw, hSw2⟩ := hSw
              go_simp
              all_goals with_reducible rfl
            simp only [Act.put, List.setIfInBounds_toArray, List.set_cons_zero, List.set_cons_succ]
            refine anyL_take (i := 6) (oi := { dst := some 96, op := Op.nilCheck (.tmp 95), type := 0, pos := "session.go:49", after := #[{ on := 5, ground := .data }], guard := none }) (v := ?_) rfl (by kernel_rfl) (by kernel_rfl) (by kernel_rfl) (fun _ _ _ h => h) (by kernel_rfl) (by kernel_rfl) (by kernel_rfl) (Or.inl ⟨by rfl, ?_⟩) qS ?_
            rotate_left
            · intro w hSw
              (try dsimp only at hSw)
              obtain ⟨hSw, hSw2⟩ := hSw
              go_simp
              all_goals with_reducible rfl
            simp only [Act.put, List.setIfInBounds_toArray, List.set_cons_zero, List.set_cons_succ]
            refine anyL_take (i := 7) (oi := { dst := some 97, op := Op.fieldAddr 112 (.tmp 96) 1, type := 0, pos := "session.go:49", after := #[{ on := 6, ground := .data }], guard := none }) (v := ?_) rfl (by kernel_rfl) (by kernel_rfl) (by kernel_rfl) (fun _ _ _ h => h) (by kernel_rfl) (by kernel_rfl) (by kernel_rfl) (Or.inl ⟨by rfl, ?_⟩) qS ?_
            rotate_left
            · intro w hSw
              (try dsimp only at hSw)
              obtain ⟨hSw, hSw2⟩ := hSw
              go_simp
              all_goals with_reducible rfl
            simp only [Act.put, List.setIfInBounds_toArray, List.set_cons_zero, List.set_cons_succ]
            refine anyL_take (i := 8) (oi := { dst := some 98, op := Op.load 28 (.tmp 97), type := 28, pos := "session.go:49", after := #[{ on := 7, ground := .data }], guard := none }) (v := ?_) rfl (by kernel_rfl) (by kernel_rfl) (by kernel_rfl) (fun _ _ _ h => h) (by kernel_rfl) (by kernel_rfl) (by kernel_rfl) (Or.inl ⟨by rfl, ?_⟩) qS ?_
            rotate_left
            · intro w hSw
              (try dsimp only at hSw)
              obtain ⟨hSw, hSw2⟩ := hSw
              go_simp
              all_goals with_reducible rfl
            simp only [Act.put, List.setIfInBounds_toArray, List.set_cons_zero, List.set_cons_succ]
            refine anyL_take (i := 9) (oi := { dst := some 99, op := Op.load 50 (.tmp 2), type := 50, pos := "session.go:49", after := #[], guard := none }) (v := ?_) rfl (by kernel_rfl) (by kernel_rfl) (by kernel_rfl) (fun _ _ _ h => h) (by kernel_rfl) (by kernel_rfl) (by kernel_rfl) (Or.inl ⟨by rfl, ?_⟩) qS ?_
            rotate_left
            · intro w hSw
              (try dsimp only at hSw)
              obtain ⟨hSw, hSw2⟩ := hSw
              go_simp
              all_goals with_reducible rfl
            simp only [Act.put, List.setIfInBounds_toArray, List.set_cons_zero, List.set_cons_succ]
            refine anyL_take (i := 10) (oi := { dst := some 100, op := Op.nilCheck (.tmp 99), type := 0, pos := "session.go:49", after := #[{ on := 9, ground := .data }], guard := none }) (v := ?_) rfl (by kernel_rfl) (by kernel_rfl) (by kernel_rfl) (fun _ _ _ h => h) (by kernel_rfl) (by kernel_rfl) (by kernel_rfl) (Or.inl ⟨by rfl, ?_⟩) qS ?_
            rotate_left
            · intro w hSw
              (try dsimp only at hSw)
              obtain ⟨hSw, hSw2⟩ := hSw
              go_simp
              all_goals with_reducible rfl
            simp only [Act.put, List.setIfInBounds_toArray, List.set_cons_zero, List.set_cons_succ]
            refine anyL_take (i := 11) (oi := { dst := some 101, op := Op.fieldAddr 112 (.tmp 100) 1, type := 0, pos := "session.go:49", after := #[{ on := 10, ground := .data }], guard := none }) (v := ?_) rfl (by kernel_rfl) (by kernel_rfl) (by kernel_rfl) (fun _ _ _ h => h) (by kernel_rfl) (by kernel_rfl) (by kernel_rfl) (Or.inl ⟨by rfl, ?_⟩) qS ?_
            rotate_left
            · intro w hSw
              (try dsimp only at hSw)
              obtain ⟨hSw, hSw2⟩ := hSw
              go_simp
              all_goals with_reducible rfl
            simp only [Act.put, List.setIfInBounds_toArray, List.set_cons_zero, List.set_cons_succ]
            refine anyL_take (i := 12) (oi := { dst := some 102, op := Op.load 28 (.tmp 101), type := 28, pos := "session.go:49", after := #[{ on := 11, ground := .data }], guard := none }) (v := ?_) rfl (by kernel_rfl) (by kernel_rfl) (by kernel_rfl) (fun _ _ _ h => h) (by kernel_rfl) (by kernel_rfl) (by kernel_rfl) (Or.inl ⟨by rfl, ?_⟩) qS ?_
            rotate_left
            · intro w hSw
              (try dsimp only at hSw)
              obtain ⟨hSw, hSw2⟩ := hSw
              go_simp
              all_goals with_reducible rfl
            simp only [Act.put, List.setIfInBounds_toArray, List.set_cons_zero, List.set_cons_succ]
            refine anyL_take (i := 13) (oi := { dst := some 103, op := Op.move (.tmp 6), type := 3, pos := "session.go:49", after := #[], guard := none }) (v := ?_) rfl (by kernel_rfl) (by kernel_rfl) (by kernel_rfl) (fun _ _ _ h => h) (by kernel_rfl) (by kernel_rfl) (by kernel_rfl) (Or.inl ⟨by rfl, ?_⟩) qS ?_
            rotate_left
            · intro w hSw
              (try dsimp only at hSw)
              obtain ⟨hSw, hSw2⟩ := hSw
              go_simp
              all_goals with_reducible rfl
            simp only [Act.put, List.setIfInBounds_toArray, List.set_cons_zero, List.set_cons_succ]
            refine anyL_take (i := 14) (oi := { dst := some 104, op := Op.binOp BinOp.add 3 (.const (Value.int IntKind.i64 2)) (.tmp 103) 3, type := 3, pos := "session.go:49", after := #[{ on := 13, ground := .data }], guard := none }) (v := ?_) rfl (by kernel_rfl) (by kernel_rfl) (by kernel_rfl) (fun _ _ _ h => h) (by kernel_rfl) (by kernel_rfl) (by kernel_rfl) (Or.inl ⟨by rfl, ?_⟩) qS ?_
            rotate_left
            · intro w hSw
              (try dsimp only at hSw)
              obtain ⟨hSw, hSw2⟩ := hSw
              go_simp
              all_goals with_reducible rfl
            simp only [Act.put, List.setIfInBounds_toArray, List.set_cons_zero, List.set_cons_succ]
            refine anyL_take (i := 15) (oi := { dst := some 105, op := Op.slice 28 (.tmp 102) (some (.tmp 104)) none none, type := 28, pos := "session.go:49", after := #[{ on := 12, ground := .data }, { on := 14, ground := .data }], guard := none }) (v := ?_) rfl (by kernel_rfl) (by kernel_rfl) (by kernel_rfl) (fun _ _ _ h => h) (by kernel_rfl) (by kernel_rfl) (by kernel_rfl) (Or.inl ⟨by rfl, ?_⟩) qS ?_
            rotate_left
            · intro w hSw
              (try dsimp only at hSw)
              have hc := HC2.out
              go_simp
              all_goals with_reducible rfl
            simp only [Act.put, List.setIfInBounds_toArray, List.set_cons_zero, List.set_cons_succ]
            refine anyL_one (i := 16) (o := { dst := some 106, op := Op.call { callee := Callee.builtin Builtin.copy, args := #[.tmp 98, .tmp 105], argTypes := #[28, 28] }, type := 3, pos := "session.go:49", after := #[{ on := 8, ground := .data }, { on := 15, ground := .data }], guard := none }) (by kernel_rfl) rfl (fun K hK => ?_)
            refine step_copy_down rfl (.tmp 98) (.tmp 105) rfl (b + 1) gj cj (2 + N) bj rfl _ _ rfl (by exact XF.out.1.own) HLN.out.1 (fun h => by first | rfl | (exfalso; have := HCAP.out; have := HC2.out; omega)) ?_
            intro w5 ho5 hon5
            have k5 : w5.cell? ⟨pl, 0, none⟩ = some (.pointer (some ⟨b, 0, none⟩)) := (World.cell?_of_block (hon5.block pl (fun e => hgb.out.2 e.symm))).trans kpo
            have f5 : w5.frozen? ⟨b, 3, none⟩ = false := (World.frozen?_of_block (hon5.block b (fun e => hgb.out.1 e.symm))).trans f3
            have c5 : w5.cell? ⟨b, 3, none⟩ = some (.slice (some ⟨gj, 0, none⟩) bj.length cj) := (World.cell?_of_block (hon5.block b (fun e => hgb.out.1 e.symm))).trans c3
            have O5 := Lib.hid (And.intro ho5 hon5)
            clear ho5 hon5
            (try go_simp)
            refine hK.out _ _ (.inr ⟨k5, c5⟩) ?_
            clear hK K
            (try simp only [Act.put, List.setIfInBounds_toArray, List.set_cons_zero, List.set_cons_succ])
            have qS2 := (And.intro k5 c5)
            clear qS
            have qS := qS2
            clear qS2
            refine anyL_take (i := 17) (oi := { dst := some 107, op := Op.slice 28 (.tmp 94) none (some (.tmp 106)) none, type := 28, pos := "session.go:49", after := #[{ on := 4, ground := .data }, { on := 16, ground := .data }], guard := none }) (v := ?_) rfl (by kernel_rfl) (by kernel_rfl) (by kernel_rfl) (fun _ _ _ h => h) (by kernel_rfl) (by kernel_rfl) (by kernel_rfl) (Or.inl ⟨by rfl, ?_⟩) qS ?_
            rotate_left
            · intro w hSw
              (try dsimp only at hSw)
              obtain ⟨hSw, hSw2⟩ := hSw
              go_simp
              all_goals with_reducible rfl
            simp only [Act.put, List.setIfInBounds_toArray, List.set_cons_zero, List.set_cons_succ]
            refine anyL_one (i := 18) (o := { dst := some 108, op := Op.nilCheck (.tmp 90), type := 0, pos := "session.go:49", after := #[{ on := 0, ground := .data }, { on := 0, ground := .phase }, { on := 1, ground := .phase }, { on := 2, ground := .phase }, { on := 3, ground := .phase }, { on := 4, ground := .phase }, { on := 5, ground := .phase }, { on := 6, ground := .phase }, { on := 7, ground := .phase }, { on := 8, ground := .phase }, { on := 9, ground := .phase }, { on := 10, ground := .phase }, { on := 11, ground := .phase }, { on := 12, ground := .phase }, { on := 13, ground := .phase }, { on := 14, ground := .phase }, { on := 15, ground := .phase }, { on := 16, ground := .phase }, { on := 17, ground := .phase }], guard := none }) (by kernel_rfl) rfl (fun K hK => ?_)
            go_simp
            (try go_simp)
            refine hK.out _ _ (.inr qS) ?_
            clear hK K
            (try simp only [Act.put, List.setIfInBounds_toArray, List.set_cons_zero, List.set_cons_succ])
            have qS2 := qS
            clear qS
            have qS := qS2
            clear qS2
            refine anyL_take (i := 19) (oi := { dst := some 109, op := Op.fieldAddr 112 (.tmp 108) 1, type := 0, pos := "session.go:49", after := #[{ on := 18, ground := .data }, { on := 0, ground := .phase }, { on := 1, ground := .phase }, { on := 2, ground := .phase }, { on := 3, ground := .phase }, { on := 4, ground := .phase }, { on := 5, ground := .phase }, { on := 6, ground := .phase }, { on := 7, ground := .phase }, { on := 8, ground := .phase }, { on := 9, ground := .phase }, { on := 10, ground := .phase }, { on := 11, ground := .phase }, { on := 12, ground := .phase }, { on := 13, ground := .phase }, { on := 14, ground := .phase }, { on := 15, ground := .phase }, { on := 16, ground := .phase }, { on := 17, ground := .phase }], guard := none }) (v := ?_) rfl (by kernel_rfl) (by kernel_rfl) (by kernel_rfl) (fun _ _ _ h => h) (by kernel_rfl) (by kernel_rfl) (by kernel_rfl) (Or.inl ⟨by rfl, ?_⟩) qS ?_
            rotate_left
            · intro w hSw
              (try dsimp only at hSw)
              obtain ⟨hSw, hSw2⟩ := hSw
              go_simp
              all_goals with_reducible rfl
            simp only [Act.put, List.setIfInBounds_toArray, List.set_cons_zero, List.set_cons_succ]
            refine anyL_one (i := 20) (o := { dst := none, op := Op.store 28 (.tmp 109) (.tmp 107), type := 0, pos := "session.go:49", after := #[{ on := 19, ground := .data }, { on := 17, ground := .data }, { on := 16, ground := .chain }, { on := 0, ground := .phase }, { on := 1, ground := .phase }, { on := 2, ground := .phase }, { on := 3, ground := .phase }, { on := 4, ground := .phase }, { on := 5, ground := .phase }, { on := 6, ground := .phase }, { on := 7, ground := .phase }, { on := 8, ground := .phase }, { on := 9, ground := .phase }, { on := 10, ground := .phase }, { on := 11, ground := .phase }, { on := 12, ground := .phase }, { on := 13, ground := .phase }, { on := 14, ground := .phase }, { on := 15, ground := .phase }, { on := 16, ground := .phase }, { on := 17, ground := .phase }], guard := none }) (by kernel_rfl) rfl (fun K hK => ?_)
            go_simp
            (try go_simp)
            refine hK.out _ _ (.inl (by kernel_rfl)) ?_
            clear hK K
            (try simp only [Act.put, List.setIfInBounds_toArray, List.set_cons_zero, List.set_cons_succ])
            refine anyL_done (by kernel_rfl) ?_ _
            have m6 : Mods w5 (w5.setCell ⟨b, 3, none⟩ (.slice (some ⟨gj, 0, none⟩) (bj.length - (2 + N)) cj)) b (fun o => o = 3) := Mods.of_setCell rfl
            have hgbb : (Value.slice (some ⟨gj, 0, none⟩) (bj.length - (2 + N)) cj).ownBlock ≠ some b := fun e => hgb.out.1 (by injection e)
            have o6 := ownsRow_setCell_other (w := w5) O5.out.1 (a := ⟨b, 3, none⟩) hgbb (.slice (some ⟨gj, 0, none⟩) (bj.length - (2 + N)) cj)
            have hvo : ∀ k, vo.ownBlock = some k → W3.heap.size ≤ k := fun k hk => (XO.out.1.lt k hk).1
            have hgW : gj < W3.heap.size := (S3.out.own.lt gj (by rw [← SAME.out]; rfl)).2
            have r5 : w5.ownsRow W3.heap.size 56 19 vo (xs.length + 1) (itemsV xs ++ (q.cells.toList ++ [Value.int .i64 pe])) := World.ownsRow.kept (row := some gj) XO.out.1 ⟨O5.out.2.os, O5.out.2.tape, O5.out.2.output, Nat.le_of_eq O5.out.2.size.symm, fun k hk hv => O5.out.2.block k (fun e => hv (by rw [e]))⟩ (.inr (fun e => by have := hvo gj e; omega))
            have r6 := ownsRow_setCell_other r5 (a := ⟨b, 3, none⟩) (fun e => by have := hvo b e; have := S3.out.lt; omega) (.slice (some ⟨gj, 0, none⟩) (bj.length - (2 + N)) cj)
            have cb : ∀ o, w5.cell? ⟨b, o, none⟩ = wo.cell? ⟨b, o, none⟩ := fun o => World.cell?_of_block (O5.out.2.block b (fun e => hgb.out.1 e.symm))
            have fb : ∀ o, w5.frozen? ⟨b, o, none⟩ = wo.frozen? ⟨b, o, none⟩ := fun o => World.frozen?_of_block (O5.out.2.block b (fun e => hgb.out.1 e.symm))
            have s6 : SesAt (w5.setCell ⟨b, 3, none⟩ (.slice (some ⟨gj, 0, none⟩) (bj.length - (2 + N)) cj)) b 1 (.slice (some ⟨gj, 0, none⟩) (bj.length - (2 + N)) cj) (bj.drop (2 + N)) false :=
              ⟨(m6.row 0 (by omega)).trans ((cb 0).trans XF.out.1.c0), (m6.row 1 (by omega)).trans ((cb 1).trans XF.out.1.c1), cell_set_same ((cb 3).trans XF.out.1.c3), (m6.row 4 (by omega)).trans ((cb 4).trans XF.out.1.c4), fun o => (m6.frz o).trans ((fb o).trans (XF.out.1.frz o)), Nat.lt_of_lt_of_le XF.out.1.lt (Nat.le_trans (Nat.le_of_eq O5.out.2.size.symm) m6.size), by unfold OwnB; exact o6⟩
            have f6 : Fed W3 (w5.setCell ⟨b, 3, none⟩ (.slice (some ⟨gj, 0, none⟩) (bj.length - (2 + N)) cj)) b v2 (.slice (some ⟨gj, 0, none⟩) (bj.length - (2 + N)) cj) :=
              (XF.out.2.trans (Fed.mk (v' := .slice (some ⟨gj, 0, none⟩) (bj.length - (2 + N)) cj) O5.out.2.os O5.out.2.tape O5.out.2.output (Nat.le_of_eq O5.out.2.size.symm) (fun k hk hb hv => O5.out.2.block k (fun e => hv (by rw [e]; rfl))) (.inl rfl))).trans (Fed.of_mods m6 (.inl rfl))
            have hit : itemCells (q.cells.toList, pe) = q.cells.toList ++ [Value.int .i64 pe] := by unfold itemCells; rfl
            have REL : Hid (FeedRel W3 (w5.setCell ⟨b, 3, none⟩ (.slice (some ⟨gj, 0, none⟩) (bj.length - (2 + N)) cj)) b v2 R vo (xs ++ [q.cells.toList ++ [Value.int .i64 pe]]) (bj.drop (2 + N)) (.slice (some ⟨gj, 0, none⟩) (bj.length - (2 + N)) cj)) := Lib.hid
              ⟨by rw [REQ.out, FI.out, hit]; simp, s6, by rw [← SAME.out]; rfl, f6, by simpa [itemsV] using r6, by have := BLE.out; have := HLN.out.1; simp; omega⟩
            have HMS : Hid ((bj.drop (2 + N)).length < gk - 1) := Lib.hid (by have := HG2.out.1; have := HLN.out.1; rw [List.length_drop]; omega)
            clear m6 hgbb o6 hvo hgW r5 r6 cb fb s6 f6 hit qS
            generalize w5.setCell ⟨b, 3, none⟩ (.slice (some ⟨gj, 0, none⟩) (bj.length - (2 + N)) cj) = W6 at *
            go_wp2
            go_roundg (gk - 1)
            case measure => have := HMS.out; omega
            case rel => exact ⟨_, _, _, HMS.out, REL.out⟩
end Go.Proofs.Ytehkgcmdndehaaa
