import Derived.Test.YtehkgcmdndehaaaRefB
import Derived.Deep.MidRow
namespace Go.Proofs.Ytehkgcmdndehaaa
set_option linter.unusedSimpArgs false
set_option linter.unusedVariables false
open Go.RowKit

/-- What ReadAnswer leaves: the answer, the reader's place and fault. -/
def RaPost (w : World) (xb : Nat) (bv : Value) (zs : List UInt8) (p : AnsD × Int) (e : Ending) (w' : World) : Prop :=
  ∃ (a : AnsD) (n : Nat) (er : Int), e = .returned (.agg a.cells) ∧ w'.cell? ⟨xb, 0, none⟩ = some bv ∧ w'.cell? ⟨xb, 1, none⟩ = some (.int .i64 n) ∧ w'.cell? ⟨xb, 2, none⟩ = some (.int .i64 er) ∧ n ≤ zs.length ∧ RefG w w' xb ∧
    p.2 = (if er = 0 ∧ n < zs.length then 9 else er) ∧ p.1 = (if p.2 = 0 then a else ansZ)

/-- The struct's block before it is answered: the reader's place n and fault er. -/
structure BkEr (w0 W : World) (xb sb ab : Nat) (T : TypeId) (z : Array Value) (bv : Value) (zs : List UInt8) (cs : Array Value) (n : Nat) (er : Int) : Prop where
  ne : xb ≠ sb
  sb0 : w0.heap.size ≤ sb
  grow : RefG w0 W xb
  res : W.heap[sb]? = some (.cells z T (0, 0))
  c0 : W.cell? ⟨xb, 0, none⟩ = some bv
  c1 : W.cell? ⟨xb, 1, none⟩ = some (.int .i64 n)
  c2 : W.cell? ⟨xb, 2, none⟩ = some (.int .i64 er)
  nle : n ≤ zs.length
  cells : ∀ o u, cs[o]? = some u → W.cell? ⟨ab, o, none⟩ = some u
theorem BkAt.er {w0 W : World} {xb sb ab : Nat} {T : TypeId} {z cs : Array Value} {bv : Value} {zs : List UInt8} {r : Rd} (S : BkAt w0 W xb sb ab T z bv zs r cs) :
    ∃ n, BkEr w0 W xb sb ab T z bv zs cs n (if r.cut then 8 else 0) ∧ (r.cut = false → r.bs = zs.drop n) := by
  obtain ⟨n, hn, c1, hd⟩ := S.rd.c1
  have hlt := S.lt
  exact ⟨n, ⟨by omega, hlt.2.1, S.grow, S.res, S.rd.c0, c1, S.rd.c2, hn, S.cells⟩, hd⟩
theorem BkAt.bad {w0 W : World} {xb sb ab : Nat} {T : TypeId} {z cs : Array Value} {bv : Value} {zs : List UInt8} {r : Rd} (S : BkAt w0 W xb sb ab T z bv zs r cs) :
    ∃ n, BkEr w0 (W.setCell ⟨xb, 2, none⟩ (.int .i64 11)) xb sb ab T z bv zs cs n 11 := by
  obtain ⟨n, hn, c1, hd⟩ := S.rd.c1
  have hlt := S.lt
  exact ⟨n, by omega, hlt.2.1, S.grow.trans (RefS.set _ _ _ _).grow, (Below.heap_setCell _ _ _ _ (by show sb ≠ xb; omega)).trans S.res, (cell_set_ne (fun e => by cases e)).trans S.rd.c0, (cell_set_ne (fun e => by cases e)).trans c1, cell_set_same S.rd.c2, hn,
    fun o u h => (cell_set_ne (fun e => by cases e; omega)).trans (S.cells o u h)⟩
theorem BkEr.fin {w0 W : World} {xb sb ab : Nat} {T : TypeId} {bv : Value} {zs : List UInt8} {a : AnsD} {n : Nat} {er : Int} {p : AnsD × Int} {z : Array Value} (S : BkEr w0 W xb sb ab T z bv zs a.cells n er)
    (h1 : p.2 = (if er = 0 ∧ n < zs.length then 9 else er)) (h2 : p.1 = (if p.2 = 0 then a else ansZ)) : RaPost w0 xb bv zs p (.returned (.agg a.cells)) (W.setRow sb a.cells) := by
  have hne := S.ne
  have hs0 := S.sb0
  exact ⟨a, n, er, rfl, (cell_setRow_other _ _ _ ⟨xb, 0, none⟩ hne).trans S.c0, (cell_setRow_other _ _ _ ⟨xb, 1, none⟩ hne).trans S.c1, (cell_setRow_other _ _ _ ⟨xb, 2, none⟩ hne).trans S.c2, S.nle,
    ⟨S.grow.os, S.grow.tape, S.grow.output, by simpa using S.grow.size, fun k hk hx => (setRow_other _ _ _ _ (by omega)).trans (S.grow.block k hk hx)⟩, h1, h2⟩

theorem BkAt.refg {w0 W w' : World} {xb sb ab : Nat} {T : TypeId} {z cs : Array Value} {bv : Value} {zs : List UInt8} {r r' : Rd} (S : BkAt w0 W xb sb ab T z bv zs r cs) (hs : RefG W w' xb) (hr : RefAt w' xb bv zs r') : BkAt w0 w' xb sb ab T z bv zs r' cs := by
  have hlt := S.lt
  have hsz := hs.size
  exact ⟨⟨hlt.1, hlt.2.1, hlt.2.2.1, by omega⟩, S.own, S.grow.trans hs, (hs.block sb (by omega) (by omega)).trans S.res, hr, fun o u h => (hs.cell (a := ⟨ab, o, none⟩) hlt.2.2.2 (by show ab ≠ xb; omega)).trans (S.cells o u h), fun o => (hs.frozen (a := ⟨ab, o, none⟩) hlt.2.2.2 (by show ab ≠ xb; omega)).trans (S.frz o)⟩
theorem there_stmt {w0 W : World} {xb sb ab : Nat} {T : TypeId} {z : Array Value} {bv : Value} {zs : List UInt8} {r : Rd} {e n0 n1 n2 : Int} (S : BkAt w0 W xb sb ab T z bv zs r (AnsD.mk e n0 n1 n2 stmtZ).cells) : W.there ab 4 9 := by
  intro j hj
  refine ⟨?_, S.frz _⟩
  have hs : 4 + j < (AnsD.mk e n0 n1 n2 stmtZ).cells.size := by show 4 + j < 13; omega
  rw [S.cells (4 + j) _ (Array.getElem?_eq_getElem hs)]
  rfl
theorem setCells_keep (b : Nat) : ∀ (vs : List Value) (o : Nat) (w : World), (w.setCells b o vs).os = w.os ∧ (w.setCells b o vs).tape = w.tape ∧ (w.setCells b o vs).output = w.output ∧ (w.setCells b o vs).heap.size = w.heap.size ∧ ∀ k, k ≠ b → (w.setCells b o vs).heap[k]? = w.heap[k]?
  | [], o, w => ⟨rfl, rfl, rfl, rfl, fun _ _ => rfl⟩
  | v :: vs, o, w => by
    obtain ⟨h1, h2, h3, h4, h5⟩ := setCells_keep b vs (o + 1) (w.setCell ⟨b, o, none⟩ v)
    refine ⟨h1, h2, h3, ?_, fun k hk => (h5 k hk).trans (Below.heap_setCell _ _ _ _ hk)⟩
    exact h4.trans (by simp [World.setCell])
theorem set_stmt {w0 W : World} {xb sb ab : Nat} {T : TypeId} {z : Array Value} {bv : Value} {zs : List UInt8} {r : Rd} {e n0 n1 n2 : Int} (st : StmtD) (S : BkAt w0 W xb sb ab T z bv zs r (AnsD.mk e n0 n1 n2 stmtZ).cells) : BkAt w0 (W.setCells ab 4 st.cells.toList) xb sb ab T z bv zs r (AnsD.mk e n0 n1 n2 st).cells := by
  have hlt := S.lt
  have h := S.rd
  obtain ⟨n, hn, c1, hd⟩ := h.c1
  have hne : xb ≠ ab := by omega
  have out : ∀ (k o : Nat), k ≠ ab → (W.setCells ab 4 st.cells.toList).cell? ⟨k, o, none⟩ = W.cell? ⟨k, o, none⟩ := fun k o hk => World.cell?_setCells_out ab _ 4 W ⟨k, o, none⟩ (fun e => absurd e hk)
  have hsize : (W.setCells ab 4 st.cells.toList).heap.size = W.heap.size := (setCells_keep ab _ 4 W).2.2.2.1
  refine ⟨⟨hlt.1, hlt.2.1, hlt.2.2.1, by rw [hsize]; exact hlt.2.2.2⟩, S.own, ⟨(setCells_keep ab _ 4 W).1.trans S.grow.os, (setCells_keep ab _ 4 W).2.1.trans S.grow.tape, (setCells_keep ab _ 4 W).2.2.1.trans S.grow.output, by rw [hsize]; exact S.grow.size, fun k hk hx => ((setCells_keep ab _ 4 W).2.2.2.2 k (by omega)).trans (S.grow.block k hk hx)⟩, ((setCells_keep ab _ 4 W).2.2.2.2 sb (by omega)).trans S.res,
    ⟨by rw [hsize]; exact h.lt, h.len, (out _ _ hne).trans h.c0, ⟨n, hn, (out _ _ hne).trans c1, hd⟩, (out _ _ hne).trans h.c2, fun o => (World.frozen?_setCells _ _ _ _ _).trans (h.frz o), ?_, h.apart⟩, fun o u hu => ?_, fun o => (World.frozen?_setCells _ _ _ _ _).trans (S.frz o)⟩
  · rcases h.reads with h' | ⟨b, off, cap, rfl, hc, hb, hxs⟩
    · exact .inl h'
    · have hb2 := S.own b rfl
      exact .inr ⟨b, off, cap, rfl, hc, by rw [hsize]; exact hb, fun i x hi => (out _ _ (by omega)).trans (hxs i x hi)⟩
  · have hth := there_stmt S
    have inn : ∀ j, j < 9 → (W.setCells ab 4 st.cells.toList).cell? ⟨ab, 4 + j, none⟩ = st.cells.toList[j]? := fun j hj => by
      have hj' : j < st.cells.toList.length := hj
      rw [World.cell?_setCells_in ab st.cells.toList 4 W (fun i hi => (hth i hi).1) j hj', List.getElem?_eq_getElem hj']
    have low : ∀ o, o < 4 → (W.setCells ab 4 st.cells.toList).cell? ⟨ab, o, none⟩ = W.cell? ⟨ab, o, none⟩ := fun o ho => World.cell?_setCells_out ab _ 4 W ⟨ab, o, none⟩ (fun _ _ => .inl ho)
    match o, hu with
    | 0, hu => exact (low 0 (by omega)).trans (S.cells 0 u hu)
    | 1, hu => exact (low 1 (by omega)).trans (S.cells 1 u hu)
    | 2, hu => exact (low 2 (by omega)).trans (S.cells 2 u hu)
    | 3, hu => exact (low 3 (by omega)).trans (S.cells 3 u hu)
    | 4, hu => exact (inn 0 (by omega)).trans hu
    | 5, hu => exact (inn 1 (by omega)).trans hu
    | 6, hu => exact (inn 2 (by omega)).trans hu
    | 7, hu => exact (inn 3 (by omega)).trans hu
    | 8, hu => exact (inn 4 (by omega)).trans hu
    | 9, hu => exact (inn 5 (by omega)).trans hu
    | 10, hu => exact (inn 6 (by omega)).trans hu
    | 11, hu => exact (inn 7 (by omega)).trans hu
    | 12, hu => exact (inn 8 (by omega)).trans hu
    | o + 13, hu => exact absurd hu (by simp [AnsD.cells])

theorem one_cut0 (r : Rd) (h : r.one.2.cut = true) : r.one.1 = 0 := by
  by_cases hc : r.cut = true ∨ r.bs.length < 1
  · unfold Rd.one Rd.take; rw [if_pos hc]; rfl
  · unfold Rd.one Rd.take at h; rw [if_neg hc] at h; cases h
theorem tail_last {e : Int} {ns : List Int} {last : Rd} {f1 : Int} {st : StmtD} {zs : List UInt8} {n : Nat} {p : AnsD × Int} (hp : p = tailP e ns last f1 st) (h : last.cut = false) (h1 : ¬ (f1 = 1 ∧ st.term = 0)) (hd : last.bs = zs.drop n) (hn : n ≤ zs.length) :
    p.2 = (if n < zs.length then 9 else 0) ∧ p.1 = (if p.2 = 0 then ⟨e, ns.getD 0 0, ns.getD 1 0, ns.getD 2 0, st⟩ else ansZ) := by
  have hl : last.bs.length = zs.length - n := by rw [hd, List.length_drop]
  by_cases hlt : n < zs.length
  · rw [hp, tail_more h h1 (by omega), if_pos hlt]
    exact ⟨rfl, rfl⟩
  · rw [hp, tail_ok h h1 (by omega), if_neg hlt]
    exact ⟨rfl, rfl⟩

set_option maxHeartbeats 3200000 in
set_option maxRecDepth 100000 in
theorem ref_rans (xb : Nat) (bv : Value) (zs : List UInt8) (w : World) (h : RefAt w xb bv zs ⟨zs, false⟩) :
    Calls Try.prog 48 #[.pointer (some ⟨xb, 0, none⟩)] w (RaPost w xb bv zs (parseAns zs)) := by
  have H := Lib.hid h
  clear h
  go_enter Try.func48, Try.ntmps48
  go_upto_region 1 with (fail)
  change Code.wp _ _ _ _ (w.alloc (.cells ansZ.cells 38))
  have hB0 := below_alloc w (.cells ansZ.cells 38)
  have res0 : (w.alloc (.cells ansZ.cells 38)).heap[w.heap.size]? = some (.cells ansZ.cells 38 (0, 0)) := heap_alloc_new _ _
  have hrd0 := H.out.of_below hB0
  have hs0 : (w.alloc (.cells ansZ.cells 38)).heap.size = w.heap.size + 1 := by simp
  generalize w.alloc (.cells ansZ.cells 38) = W0 at *
  have H0 := Lib.hid (And.intro hB0 (And.intro res0 (And.intro hrd0 hs0)))
  clear hB0 res0 hrd0 hs0
  go_upto_region 2 with (go_at_call 58; refine (ref_u8 xb bv zs ⟨zs, false⟩ W0 H0.out.2.2.1).mono ?_; generalize he : Rd.one ⟨zs, false⟩ = e at *; have HE := Lib.hid he; clear he; rintro ee w2 ⟨rfl, hr2, hs2⟩; have H2 := Lib.hid (And.intro hr2 hs2); clear hr2 hs2)
  change Code.wp _ _ _ _ (w2.alloc (.cells (AnsD.mk e.1 0 0 0 stmtZ).cells 38))
  have S : BkAt w (w2.alloc (.cells (AnsD.mk e.1 0 0 0 stmtZ).cells 38)) xb w.heap.size w2.heap.size 38 ansZ.cells bv zs e.2 (AnsD.mk e.1 0 0 0 stmtZ).cells := by
    have hab := heap_alloc_new w2 (.cells (AnsD.mk e.1 0 0 0 stmtZ).cells 38)
    have hal := below_alloc w2 (.cells (AnsD.mk e.1 0 0 0 stmtZ).cells 38)
    have hsz3 : (w2.alloc (.cells (AnsD.mk e.1 0 0 0 stmtZ).cells 38)).heap.size = w2.heap.size + 1 := by simp
    have hx := H.out.lt
    have h0 := H0.out.2.2.2
    have hs2 := H2.out.2.size
    refine ⟨⟨hx, Nat.le_refl _, by omega, by omega⟩, H.out.reads.own_lt, ?_, ?_, H2.out.1.of_below hal, fun o u h => ?_, fun o => frozen_of_row _ _ _ _ _ hab⟩
    · exact ((RefG.of_below (H0.out.1)).trans H2.out.2.grow).trans (RefG.of_below hal)
    · exact (hal.block _ (by omega)).trans ((H2.out.2.block _ (by omega)).trans H0.out.2.1)
    · rw [cell_of_row _ _ _ _ _ _ hab]; exact h
  have T0 := Lib.hid S
  generalize w2.alloc (.cells (AnsD.mk e.1 0 0 0 stmtZ).cells 38) = v0 at *
  generalize w2.heap.size = ab at *
  generalize hsb : w.heap.size = sb at T0 ⊢
  have HSB := Lib.hid hsb
  clear S H0 H2 hsb
  go_upto_region 3 with (go_at_call 60; refine (bk_int T0.out).mono ?_; generalize hi1 : Rd.int e.2 = i1 at *; have HI1 := Lib.hid hi1; clear hi1; rintro ee u1 ⟨rfl, S⟩; have k1 : u1.cell? ⟨ab, 1, none⟩ = some (.int .i64 0) := S.cells 1 _ rfl; have kf := S.frz 1; have Q1 := Lib.hid S; clear S)
  have S := Q1.out.set 1 (.int .i64 i1.1) (by show 1 < 13; decide)
  generalize u1.setCell ⟨ab, 1, none⟩ (.int .i64 i1.1) = v1 at *
  have T1 : Hid (BkAt w v1 xb sb ab 38 ansZ.cells bv zs i1.2 (AnsD.mk e.1 i1.1 0 0 stmtZ).cells) := Lib.hid S
  clear S k1 kf Q1 T0
  go_upto_region 4 with (go_at_call 60; refine (bk_int T1.out).mono ?_; generalize hi2 : Rd.int i1.2 = i2 at *; have HI2 := Lib.hid hi2; clear hi2; rintro ee u2 ⟨rfl, S⟩; have k1 : u2.cell? ⟨ab, 2, none⟩ = some (.int .i64 0) := S.cells 2 _ rfl; have kf := S.frz 2; have Q2 := Lib.hid S; clear S)
  have S := Q2.out.set 2 (.int .i64 i2.1) (by show 2 < 13; decide)
  generalize u2.setCell ⟨ab, 2, none⟩ (.int .i64 i2.1) = v2 at *
  have T2 : Hid (BkAt w v2 xb sb ab 38 ansZ.cells bv zs i2.2 (AnsD.mk e.1 i1.1 i2.1 0 stmtZ).cells) := Lib.hid S
  clear S k1 kf Q2 T1
  go_upto_region 5 with (go_at_call 60; refine (bk_int T2.out).mono ?_; generalize hi3 : Rd.int i2.2 = i3 at *; have HI3 := Lib.hid hi3; clear hi3; rintro ee u3 ⟨rfl, S⟩; have k1 : u3.cell? ⟨ab, 3, none⟩ = some (.int .i64 0) := S.cells 3 _ rfl; have kf := S.frz 3; have Q3 := Lib.hid S; clear S)
  have S := Q3.out.set 3 (.int .i64 i3.1) (by show 3 < 13; decide)
  generalize u3.setCell ⟨ab, 3, none⟩ (.int .i64 i3.1) = v3 at *
  have T3 : Hid (BkAt w v3 xb sb ab 38 ansZ.cells bv zs i3.2 (AnsD.mk e.1 i1.1 i2.1 i3.1 stmtZ).cells) := Lib.hid S
  clear S k1 kf Q3 T2
  have E : Rd.ints 3 e.2 = ([i1.1, i2.1, i3.1], i3.2) := by
    simp only [Rd.ints, HI1.out, HI2.out, HI3.out]
  have HE3 := Lib.hid E
  clear E
  go_upto_region 6 with (go_at_call 58; refine (bk_u8 T3.out).mono ?_; generalize hf : Rd.one i3.2 = f at *; have HF := Lib.hid hf; clear hf; rintro ee w5 ⟨rfl, S⟩; have T5 := Lib.hid S; clear S T3)
  obtain ⟨f1, fr⟩ := f
  simp only [] at T5 ⊢
  have kc := T5.out.rd.c2
  have kf2 := T5.out.rd.frz 2
  cases hcut : fr.cut with
  | true =>
    rw [hcut] at kc
    simp only [if_true] at kc
    have f0 : f1 = 0 := by have := one_cut0 i3.2; rw [HF.out] at this; exact this hcut
    have PQ := Lib.hid (parse_not zs e ([i1.1, i2.1, i3.1], i3.2) f1 fr HE.out HE3.out HF.out (by rw [f0]; decide) (fun h => by rw [hcut] at h; cases h.1))
    have PC := Lib.hid hcut
    clear hcut f0 kf2
    obtain ⟨n, S, _⟩ := T5.out.er
    rw [PC.out] at S
    have SE := Lib.hid S
    clear S
    go_upto_region 12 with (fail)
    go_step
    refine wpList_load_mid rfl 38 (.tmp 3) rfl ab 0 rfl ((AnsD.mk e.1 i1.1 i2.1 i3.1 stmtZ)).cells.toList _ (fun j u hj => by rw [Nat.zero_add]; exact SE.out.cells j u (by simpa using hj)) Try.underlying38 rfl (by kernel_rfl) ?_
    refine wpList_store_row rfl 38 (.tmp 2) (.tmp 57) rfl sb ((AnsD.mk e.1 i1.1 i2.1 i3.1 stmtZ)).cells rfl rfl 38 ansZ.cells SE.out.res (by kernel_rfl) rfl (ans_one_cells _) ?_
    go_wp2
    (try simp only [Exit.inBlock, Exit.then])
    refine bodyPost_ret (results_cell_row rfl _ _ sb 38 ((AnsD.mk e.1 i1.1 i2.1 i3.1 stmtZ)).cells (0, 0) _ rfl (setRow_heap _ _ _ _ _ _ SE.out.res) Try.underlying38 rfl (by kernel_rfl)) rfl ?_
    exact SE.out.fin (by rw [PQ.out, tail_cut PC.out]; rfl) (by rw [PQ.out, tail_cut PC.out]; rfl)
  | false =>
    rw [hcut] at kc
    simp only [Bool.false_eq_true, if_false] at kc
    by_cases h1 : 1 < f1
    · have PQ := Lib.hid (parse_bad zs e ([i1.1, i2.1, i3.1], i3.2) f1 fr HE.out HE3.out HF.out ⟨hcut, h1⟩)
      clear hcut
      obtain ⟨n, S⟩ := T5.out.bad
      have kc' := S.c2
      have SE := Lib.hid S
      clear S
      go_upto_region 12 with (fail)
      go_step
      refine wpList_load_mid rfl 38 (.tmp 3) rfl ab 0 rfl ((AnsD.mk e.1 i1.1 i2.1 i3.1 stmtZ)).cells.toList _ (fun j u hj => by rw [Nat.zero_add]; exact SE.out.cells j u (by simpa using hj)) Try.underlying38 rfl (by kernel_rfl) ?_
      refine wpList_store_row rfl 38 (.tmp 2) (.tmp 57) rfl sb ((AnsD.mk e.1 i1.1 i2.1 i3.1 stmtZ)).cells rfl rfl 38 ansZ.cells SE.out.res (by kernel_rfl) rfl (ans_one_cells _) ?_
      go_wp2
      (try simp only [Exit.inBlock, Exit.then])
      refine bodyPost_ret (results_cell_row rfl _ _ sb 38 ((AnsD.mk e.1 i1.1 i2.1 i3.1 stmtZ)).cells (0, 0) _ rfl (setRow_heap _ _ _ _ _ _ SE.out.res) Try.underlying38 rfl (by kernel_rfl)) rfl ?_
      exact SE.out.fin (by rw [PQ.out]; rfl) (by rw [PQ.out]; rfl)
    · by_cases hf1 : f1 = 1
      · subst hf1
        have PQ := Lib.hid (parse_one zs e ([i1.1, i2.1, i3.1], i3.2) fr HE.out HE3.out HF.out)
        clear hcut
        go_upto_region 10 with (first | (go_at_call 66; refine (ref_rstmt xb bv zs fr w5 T5.out.rd).mono ?_; rintro ee w6 ⟨rfl, hr6, hg6⟩; have R6 := Lib.hid (And.intro hr6 hg6); clear hr6 hg6; have S6 := Lib.hid (T5.out.refg R6.out.2 R6.out.1)) | (refine wpList_store_mid rfl 36 (.tmp 42) (.tmp 41) rfl ab 4 (stmtOf fr.str.1 (Rd.ints 8 fr.str.2).1).cells rfl rfl (there_stmt S6.out) (by kernel_rfl) (stmt_one_cells _) ?_))
        have S7 := set_stmt (stmtOf fr.str.1 (Rd.ints 8 fr.str.2).1) S6.out
        generalize w6.setCells ab 4 (stmtOf fr.str.1 (Rd.ints 8 fr.str.2).1).cells.toList = w7 at *
        have T7 := Lib.hid S7
        clear S7 S6 R6
        have kc7 := T7.out.rd.c2
        have kf7 := T7.out.rd.frz 2
        have k5 : w7.cell? ⟨ab, 5, none⟩ = some (.int .i64 (stmtOf fr.str.1 (Rd.ints 8 fr.str.2).1).term) := T7.out.cells 5 _ rfl
        clear kc kf2
        generalize hst : stmtOf fr.str.1 (Rd.ints 8 fr.str.2).1 = st at *
        generalize hr8 : (Rd.ints 8 fr.str.2).2 = r8 at *
        have PQ2 : Hid (parseAns zs = tailP e.1 [i1.1, i2.1, i3.1] r8 1 st) := Lib.hid PQ.out
        clear PQ hst hr8
        cases hcut : r8.cut with
        | true =>
          rw [hcut] at kc7
          simp only [if_true] at kc7
          have PC := Lib.hid hcut
          clear hcut
          obtain ⟨n, S, _⟩ := T7.out.er
          rw [PC.out] at S
          have SE := Lib.hid S
          clear S
          go_upto_region 12 with (fail)
          go_step
          refine wpList_load_mid rfl 38 (.tmp 3) rfl ab 0 rfl ((AnsD.mk e.1 i1.1 i2.1 i3.1 st)).cells.toList _ (fun j u hj => by rw [Nat.zero_add]; exact SE.out.cells j u (by simpa using hj)) Try.underlying38 rfl (by kernel_rfl) ?_
          refine wpList_store_row rfl 38 (.tmp 2) (.tmp 57) rfl sb ((AnsD.mk e.1 i1.1 i2.1 i3.1 st)).cells rfl rfl 38 ansZ.cells SE.out.res (by kernel_rfl) rfl (ans_one_cells _) ?_
          go_wp2
          (try simp only [Exit.inBlock, Exit.then])
          refine bodyPost_ret (results_cell_row rfl _ _ sb 38 ((AnsD.mk e.1 i1.1 i2.1 i3.1 st)).cells (0, 0) _ rfl (setRow_heap _ _ _ _ _ _ SE.out.res) Try.underlying38 rfl (by kernel_rfl)) rfl ?_
          exact SE.out.fin (by rw [PQ2.out, tail_cut PC.out]; rfl) (by rw [PQ2.out, tail_cut PC.out]; rfl)
        | false =>
          rw [hcut] at kc7
          simp only [Bool.false_eq_true, if_false] at kc7
          have PC := Lib.hid hcut
          clear hcut
          generalize htm : st.term = tm at *
          by_cases hterm : tm = 0
          · have PT := Lib.hid (htm.trans hterm)
            subst hterm
            clear htm
            obtain ⟨n, S⟩ := T7.out.bad
            have SE := Lib.hid S
            clear S
            go_upto_region 12 with (fail)
            go_step
            refine wpList_load_mid rfl 38 (.tmp 3) rfl ab 0 rfl ((AnsD.mk e.1 i1.1 i2.1 i3.1 st)).cells.toList _ (fun j u hj => by rw [Nat.zero_add]; exact SE.out.cells j u (by simpa using hj)) Try.underlying38 rfl (by kernel_rfl) ?_
            refine wpList_store_row rfl 38 (.tmp 2) (.tmp 57) rfl sb ((AnsD.mk e.1 i1.1 i2.1 i3.1 st)).cells rfl rfl 38 ansZ.cells SE.out.res (by kernel_rfl) rfl (ans_one_cells _) ?_
            go_wp2
            (try simp only [Exit.inBlock, Exit.then])
            refine bodyPost_ret (results_cell_row rfl _ _ sb 38 ((AnsD.mk e.1 i1.1 i2.1 i3.1 st)).cells (0, 0) _ rfl (setRow_heap _ _ _ _ _ _ SE.out.res) Try.underlying38 rfl (by kernel_rfl)) rfl ?_
            exact SE.out.fin (by rw [PQ2.out, tail_term PC.out rfl PT.out]; rfl) (by rw [PQ2.out, tail_term PC.out rfl PT.out]; rfl)
          · have PT : Hid (¬ st.term = 0) := Lib.hid (fun h => hterm (htm.symm.trans h))
            have hbt : (tm == 0) = false := by simp [hterm]
            clear htm
            obtain ⟨n, S, hd⟩ := T7.out.er
            rw [PC.out] at S
            simp only [Bool.false_eq_true, if_false] at S
            have SE := Lib.hid S
            have TL := Lib.hid (tail_last PQ2.out PC.out (fun h => PT.out h.2) (hd PC.out) S.nle)
            clear S hd
            go_upto_region 12 with (fail)
            go_step
            refine wpList_load_mid rfl 38 (.tmp 3) rfl ab 0 rfl ((AnsD.mk e.1 i1.1 i2.1 i3.1 st)).cells.toList _ (fun j u hj => by rw [Nat.zero_add]; exact SE.out.cells j u (by simpa using hj)) Try.underlying38 rfl (by kernel_rfl) ?_
            refine wpList_store_row rfl 38 (.tmp 2) (.tmp 57) rfl sb ((AnsD.mk e.1 i1.1 i2.1 i3.1 st)).cells rfl rfl 38 ansZ.cells SE.out.res (by kernel_rfl) rfl (ans_one_cells _) ?_
            go_wp2
            (try simp only [Exit.inBlock, Exit.then])
            refine bodyPost_ret (results_cell_row rfl _ _ sb 38 ((AnsD.mk e.1 i1.1 i2.1 i3.1 st)).cells (0, 0) _ rfl (setRow_heap _ _ _ _ _ _ SE.out.res) Try.underlying38 rfl (by kernel_rfl)) rfl ?_
            exact SE.out.fin (by rw [TL.out.1]; simp) (TL.out.2)
      · have PQ := Lib.hid (parse_not zs e ([i1.1, i2.1, i3.1], i3.2) f1 fr HE.out HE3.out HF.out hf1 (fun h => h1 h.2))
        have PC := Lib.hid hcut
        clear hcut
        obtain ⟨n, S, hd⟩ := T5.out.er
        rw [PC.out] at S
        simp only [Bool.false_eq_true, if_false] at S
        have SE := Lib.hid S
        have TL := Lib.hid (tail_last PQ.out PC.out (fun h => hf1 h.1) (hd PC.out) S.nle)
        clear S hd
        go_upto_region 12 with (fail)
        go_step
        refine wpList_load_mid rfl 38 (.tmp 3) rfl ab 0 rfl ((AnsD.mk e.1 i1.1 i2.1 i3.1 stmtZ)).cells.toList _ (fun j u hj => by rw [Nat.zero_add]; exact SE.out.cells j u (by simpa using hj)) Try.underlying38 rfl (by kernel_rfl) ?_
        refine wpList_store_row rfl 38 (.tmp 2) (.tmp 57) rfl sb ((AnsD.mk e.1 i1.1 i2.1 i3.1 stmtZ)).cells rfl rfl 38 ansZ.cells SE.out.res (by kernel_rfl) rfl (ans_one_cells _) ?_
        go_wp2
        (try simp only [Exit.inBlock, Exit.then])
        refine bodyPost_ret (results_cell_row rfl _ _ sb 38 ((AnsD.mk e.1 i1.1 i2.1 i3.1 stmtZ)).cells (0, 0) _ rfl (setRow_heap _ _ _ _ _ _ SE.out.res) Try.underlying38 rfl (by kernel_rfl)) rfl ?_
        exact SE.out.fin (by rw [TL.out.1]; simp) (TL.out.2)
end Go.Proofs.Ytehkgcmdndehaaa
