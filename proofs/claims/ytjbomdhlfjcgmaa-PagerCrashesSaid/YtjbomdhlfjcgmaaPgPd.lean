/-
  The law PagerPlays: the state of its loop, and what each call makes of it.
-/
import Derived.Test.YtjbomdhlfjcgmaaPgPc
import Derived.Laws.CopyOwn
import Derived.Laws.Tables
import Derived.Laws.BytesString
namespace Go.Proofs.Ytjbomdhlfjcgmaa
set_option linter.unusedSimpArgs false
set_option linter.unusedVariables false
open Go.RowKit

/-! Bytes that read, or an empty slice wherever it points. -/
theorem run_append_rowZ (w : World) (base : Nat) (v : Value) (xs : List UInt8) (hown : Row w base v xs) (vs : Value) (zs : List UInt8) (hr : ReadsZ w vs zs) (hl : xs.length + zs.length ≤ 140737488351232) (hbase : base ≤ w.heap.size) (ty : TypeId) (hty : ty = 22) :
    ∃ v' w', (Builtin.append_ #[22, 22] ty #[v, vs]).run Try.prog w = .ok v' w' ∧ Row w' base v' (xs ++ zs) ∧ Appd w w' v v' := by
  subst hty
  obtain ⟨i0, hi, hz0, hz1, hz2⟩ := info_parts infoU8
  have hown0 := hown
  unfold Row at hown
  rcases hr with (⟨rfl, rfl⟩ | ⟨b, off, cap, rfl, hc, hb, hx⟩) | ⟨rfl, a, c, rfl⟩
  · refine ⟨v, w, ?_, by simpa using hown0, Appd.refl _ _⟩
    rcases hown.2 with ⟨rfl, h0⟩ | ⟨g, cap, cur, rfl, _, _, hnc, _⟩
    · simp [Builtin.append_, run_underlying Try.underlying22, sizeOf, typeInfo, hi, Builtin.lenOf, Builtin.firstCells, h0]
    · simp [Builtin.append_, run_underlying Try.underlying22, sizeOf, typeInfo, hi, Builtin.lenOf, Builtin.firstCells, hnc, storeCells]
  · have hcells : ∀ j u, (bcells zs)[j]? = some u → w.cell? ((⟨b, off, none⟩ : Addr).add j) = some u := by
      intro j u hj
      simp only [bcells, List.getElem?_map, Option.map_eq_some_iff] at hj
      obtain ⟨x, hx1, rfl⟩ := hj
      rw [Addr.add_lit]
      exact hx j x hx1
    obtain ⟨v', w', hrun, h2, h3, _, h5⟩ := run_append_own_at (P := Try.prog) w base 22 22 5 i0 (.int .u8 0) 1 1 Try.underlying22 hi hz0 hz1 hz2 rfl (by decide) v xs.length (bcells xs) hown
      ⟨b, off, none⟩ zs.length cap (bcells zs) (by simp [bcells]) hcells (bcells_oneCell _) (by unfold maxLen; omega) (by omega) hbase
    refine ⟨v', w', hrun, ?_, appd_at h3 h5⟩
    unfold Row
    rw [List.length_append, bcells_append]
    exact h2
  · refine ⟨v, w, ?_, by simpa using hown0, Appd.refl _ _⟩
    rcases hown.2 with ⟨rfl, h0⟩ | ⟨g, cap, cur, rfl, _, _, hnc, _⟩
    · cases a <;> simp [Builtin.append_, run_underlying Try.underlying22, sizeOf, typeInfo, hi, Builtin.lenOf, Builtin.firstCells, h0, loadCells, loadCellsFrom]
    · cases a <;> simp [Builtin.append_, run_underlying Try.underlying22, sizeOf, typeInfo, hi, Builtin.lenOf, Builtin.firstCells, hnc, storeCells, loadCells, loadCellsFrom]
/-- append([]byte{}, s...): a copy in a block of one's own. -/
theorem wpList_copy_rowZ (w : World) {ops : Array Oper} {rest : List Oper} {o : Oper} {a : Act} {Q : Exit → Act → World → Prop} (hgd : o.guard = none) (s x : Operand)
    (ho : o.op = .call { callee := .builtin .append, args := #[s, x], argTypes := #[22, 22] }) (hty : o.type = 22)
    (hs : a.eval s = .slice (some ⟨w.heap.size, 0, none⟩) 0 0) (vs : Value) (zs : List UInt8) (hx : a.eval x = vs) (hr : ReadsZ w vs zs) (hl : zs.length ≤ 140737488351232)
    (h : ∀ a' c' w', Row w' w.heap.size (.slice a' zs.length c') zs → Below w.heap.size w w' → wpList Try.prog ops Q rest (a.put o.dst (.slice a' zs.length c')) w') :
    wpList Try.prog ops Q (o :: rest) a (w.alloc (.cells #[] 5)) := by
  obtain ⟨v', w', hrun, h2, h3⟩ := run_append_rowZ (w.alloc (.cells #[] 5)) w.heap.size (.slice (some ⟨w.heap.size, 0, none⟩) 0 0) [] (World.ownsRow_made w #[] 0 (Nat.le_refl _) (Nat.zero_le _) rfl) vs zs (hr.below (below_any w _)) (by simpa using hl) (by simp) o.type hty
  rw [List.nil_append] at h2
  obtain ⟨a', c', rfl⟩ := h2.reads.len
  refine wpList_plain hgd fun _ hK => ?_
  unfold Oper.wp execOp
  simp only [ho, resolve, invoke, builtin, Sem.run_bind, Sem.run_pure, Result.andThen_ok, List.map_toArray, List.map_cons, List.map_nil, hs, hx, hrun]
  exact hK _ _ (h a' c' w' h2 ((below_any w _).trans (h3.keeps.below (by simp) (fun j hj e => by
    have e : w.heap.size = j := by simpa [Value.ownBlock] using e
    omega))))
theorem conv_Z {w : World} {v : Value} {zs : List UInt8} (h : ReadsZ w v zs) : (convert 22 9 v).run Try.prog w = .ok (.string (strB zs)) w := by
  rcases h with h | ⟨rfl, a, c, rfl⟩
  · exact run_string_of 22 9 5 Try.underlying22 Try.underlying5 Try.underlying9 h
  · rw [run_convert_bytes_string w _ _ _ a 0 c Try.underlying22 Try.underlying5 Try.underlying9]
    cases a <;> simp [Conv.bytesToString, loadCells]
    all_goals rfl
theorem row_madeC (w : World) (cs cs0 : Array Value) (T : TypeId) : Below w.heap.size w ((w.alloc (.cells cs0 T)).setRow w.heap.size cs) ∧ ((w.alloc (.cells cs0 T)).setRow w.heap.size cs).heap[w.heap.size]? = some (.cells cs T (0, 0)) :=
  ⟨below_setRow (below_any _ _) (Nat.le_refl _) _, setRow_heap _ _ _ _ _ _ (heap_alloc_new _ _)⟩

/-- The law's state: pager, disk, and the two lists; i: how many calls were made. -/
structure PlS (w0 w : World) (bl i pb db : Nat) (va : Value) (ps : List PageD) (vd : Value) (qs : List PageD) (rt : List UInt8) (sq nw wn : Nat) (F G : Nat → Prop) (D : DiskS) (S : PgS) (C : Comm) : Prop where
  two : Pl2 w0 w pb db F G D S C va ps vd qs
  ma : PMap (nowP S C) ps
  md : PMap C.pages qs
  root : C.root = rt
  seq : C.seq = sq
  blk : D.blocks = bl
  news : cnt (fun k => (S.fresh k).isSome) S.blocks ≤ nw
  wrote : D.writes = wn
  lps : ps.length ≤ i
  lqs : qs.length ≤ i
  lsq : sq ≤ i
  lnw : nw ≤ i
  lwn : wn ≤ 400 * i
section
variable {w0 w w' : World} {bl i pb db : Nat} {va vd v : Value} {ps qs rs : List PageD} {rt : List UInt8} {sq nw wn : Nat} {F G F' G' : Nat → Prop} {D D' : DiskS} {S S' : PgS} {C C' : Comm}
theorem PlS.up (h : PlS w0 w bl i pb db va ps vd qs rt sq nw wn F G D S C) : UpB w0 w pb db F G D S C := h.two.up
theorem PlS.below (h : PlS w0 w bl i pb db va ps vd qs rt sq nw wn F G D S C) (k : Below w.heap.size w w') : PlS w0 w' bl i pb db va ps vd qs rt sq nw wn F G D S C := { h with two := h.two.below k }
theorem PlS.drewN (h : PlS w0 w bl i pb db va ps vd qs rt sq nw wn F G D S C) (n : Nat) : PlS w0 (w.drewN n) bl i pb db va ps vd qs rt sq nw wn F G D S C := { h with two := h.two.drewN n }
theorem PlS.mono (h : PlS w0 w bl i pb db va ps vd qs rt sq nw wn F G D S C) : PlS w0 w bl (i + 1) pb db va ps vd qs rt sq nw wn F G D S C :=
  { h with lps := by have := h.lps; omega, lqs := by have := h.lqs; omega, lsq := by have := h.lsq; omega, lnw := by have := h.lnw; omega, lwn := by have := h.lwn; omega }
/-- A read: the pager's block may be written. -/
theorem PlS.read (h : PlS w0 w bl i pb db va ps vd qs rt sq nw wn F G D S C) (hu : UpB w0 w' pb db F G D S C) (hk : Keeps (fun k => k = pb) w w') : PlS w0 w' bl i pb db va ps vd qs rt sq nw wn F G D S C :=
  { h with two := h.two.turn hu ((Moves.of_keeps (hk.mono (fun j _ e => by rw [e]; exact h.up.up.on.pg.own))).left) }
/-- A page more. -/
theorem PlS.alloc (h : PlS w0 w bl i pb db va ps vd qs rt sq nw wn F G D S C) {n : Nat} {zs : List UInt8} (hu : UpB w0 w' pb db F' G D S' C) (hm : Moves F F' w w')
    (h1 : nowP S C n = none) (h2 : ∀ k, nowP S' C k = if k = n then some zs else nowP S C k) (h3 : cnt (fun k => (S'.fresh k).isSome) S'.blocks = cnt (fun k => (S.fresh k).isSome) S.blocks + 1)
    {w2 : World} (hr : PRow w2 w0.heap.size v (ps ++ [(n, zs)])) (ha : Appd w' w2 va v) : PlS w0 w2 bl (i + 1) pb db v (ps ++ [(n, zs)]) vd qs rt sq (nw + 1) wn F' G D S' C :=
  { h with two := (h.two.turn hu hm.left).more hr ha, ma := h.ma.more h1 h2, news := by rw [h3]; have := h.news; omega, lps := by rw [List.length_append, List.length_singleton]; have := h.lps; omega, lqs := by have := h.lqs; omega, lsq := by have := h.lsq; omega, lnw := by have := h.lnw; omega, lwn := by have := h.lwn; omega }
/-- A page fewer. -/
theorem PlS.free (h : PlS w0 w bl i pb db va ps vd qs rt sq nw wn F G D S C) {n : Nat} {zs : List UInt8} (hn : nowP S C n = some zs) (hu : UpB w0 w' pb db F G D (S.free n).1 C) (hk : Keeps F w w')
    {w2 : World} (hr : PRow w2 w'.heap.size v (woP ps (n : Int))) (hB : Below w'.heap.size w' w2) : PlS w0 w2 bl i pb db v (woP ps (n : Int)) vd qs rt sq nw wn F G D (S.free n).1 C := by
  obtain ⟨_, _, f3, _, f5⟩ := free_yes h.up.up.inv hn
  exact { h with two := (h.two.turn hu (Moves.of_keeps hk).left).newA hr hB, ma := h.ma.wo f3, news := Nat.le_trans f5 h.news, lps := Nat.le_trans (woP_len _ _) h.lps }
theorem PlS.free_no (h : PlS w0 w bl i pb db va ps vd qs rt sq nw wn F G D S C) {x : Int} (hx : 0 ≤ x → nowP S C x.toNat = none) (hu : UpB w0 w' pb db F G D S C) (hk : Keeps F w w')
    {w2 : World} (hr : PRow w2 w'.heap.size v (woP ps x)) (hB : Below w'.heap.size w' w2) : PlS w0 w2 bl i pb db v (woP ps x) vd qs rt sq nw wn F G D S C := by
  rw [h.ma.wo_no hx] at hr ⊢
  exact { h with two := (h.two.turn hu (Moves.of_keeps hk).left).newA hr hB }
/-- A commit. -/
theorem PlS.commit (h : PlS w0 w bl i pb db va ps vd qs rt sq nw wn F G D S C) {root : List UInt8} (hu : UpB w0 w' pb db F' G' D' (S.done root) (commC S C root)) (hm : Moves (fun k => F k ∨ G k) (fun k => F' k ∨ G' k) w w') (hb : D'.blocks = D.blocks)
    (hw : D'.writes ≤ wn + 400) {w2 : World} (hr : PRow w2 w'.heap.size v ps) (hB : Below w'.heap.size w' w2) : PlS w0 w2 bl (i + 1) pb db va ps v ps root (sq + 1) 0 D'.writes F' G' D' (S.done root) (commC S C root) :=
  { two := (h.two.turn hu hm).newD hr hB, ma := h.ma.congr (fun n => done_now S C root n), md := h.ma.congr (fun n => by rw [commC_pages]), root := rfl, seq := by show C.seq + 1 = _; rw [h.seq], blk := hb.trans h.blk,
    news := by rw [cnt_none (p := fun k => ((S.done root).fresh k).isSome) _ (fun n _ => rfl)]; exact Nat.le_refl _, wrote := rfl, lps := by have := h.lps; omega, lqs := by have := h.lps; omega, lsq := by have := h.lsq; omega, lnw := Nat.zero_le _, lwn := by have := h.lwn; omega }
/-- All is forgotten. -/
theorem PlS.abort (h : PlS w0 w bl i pb db va ps vd qs rt sq nw wn F G D S C) (hu : UpB w0 w' pb db F' G D S.clean C) (hm : Moves F F' w w') {w2 : World} (hr : PRow w2 w'.heap.size v qs) (hB : Below w'.heap.size w' w2) : PlS w0 w2 bl i pb db v qs vd qs rt sq nw wn F' G D S.clean C :=
  { h with two := (h.two.turn hu hm.left).newA hr hB, ma := h.md.congr (fun n => clean_now S C n), news := by rw [cnt_none (p := fun k => (S.clean.fresh k).isSome) _ (fun n _ => rfl)]; exact Nat.zero_le _, lps := h.lqs }
/-- Opened anew. -/
theorem PlS.reopen (h : PlS w0 w bl i pb db va ps vd qs rt sq nw wn F G D S C) {qb : Nat} (hu : UpB w0 w' qb db F' G D (loadS D) C) (hF : ∀ k, F' k → w.heap.size ≤ k) (hB0 : Below w.heap.size w w') {w2 : World} (hr : PRow w2 w'.heap.size v qs) (hB : Below w'.heap.size w' w2) : PlS w0 w2 bl i qb db v qs vd qs rt sq 0 wn F' G D (loadS D) C := by
  have h2 : Pl2 w0 w' qb db F' G D (loadS D) C va ps vd qs := ⟨hu, h.two.ra.below hB0, fun k hk => ⟨fun hf => by have := hF k hf; have := (h.two.ra.blk k hk).2; omega, (h.two.fa k hk).2⟩, h.two.rd.below hB0, fun k hk => ⟨fun hf => by have := hF k hf; have := (h.two.rd.blk k hk).2; omega, (h.two.fd k hk).2⟩, h.two.dis⟩
  exact { h with two := h2.newA hr hB, ma := h.md.congr (fun n => loadS_now C n), news := by rw [cnt_none (p := fun k => ((loadS D).fresh k).isSome) _ (fun n _ => rfl)]; exact Nat.le_refl _, lps := h.lqs, lnw := Nat.zero_le _ }
end
theorem ub_open2 {w0 w : World} {pb db : Nat} {F G : Nat → Prop} {D : DiskS} {S : PgS} {C : Comm} (h : UpB w0 w pb db F G D S C) : Calls Try.prog 11 #[.pointer (some ⟨db, 0, none⟩)] w
    (fun e w' => ∃ qb F', e = .returned (.tuple #[.pointer (some ⟨qb, 0, none⟩), .int .i64 0]) ∧ UpB w0 w' qb db F' G D (loadS D) C ∧ (∀ k, F' k → w.heap.size ≤ k) ∧ Below w.heap.size w w') :=
  (up_open h.up.on.dk h.up.inv.ok h.alive).mono (by
    rintro e w' ⟨hB, qb, F', he, hup, hF⟩
    refine ⟨qb, F', he, ⟨hup, h.bel.trans (hB.mono h.bel.size), fun k hk => ?_, h.alive, h.free⟩, hF, hB⟩
    rcases hk with hk | hk
    · exact Nat.le_trans h.bel.size (hF k hk)
    · exact h.own k (.inr hk))
/-- The state as the loop's slots have it. -/
def PlE (w0 w : World) (bl i db : Nat) (s7 s9 s10 s11 s12 s13 s14 : Value) : Prop :=
  ∃ (pb : Nat) (a9 : Option Addr) (c9 : Nat) (ps : List PageD) (a10 : Option Addr) (c10 : Nat) (qs : List PageD) (rt : List UInt8) (sq nw wn : Nat) (F G : Nat → Prop) (D : DiskS) (S : PgS) (C : Comm),
    s7 = .pointer (some ⟨pb, 0, none⟩) ∧ s9 = .slice a9 ps.length c9 ∧ s10 = .slice a10 qs.length c10 ∧ s11 = .string (strB rt) ∧ s12 = .int .i64 (sq : Int) ∧ s13 = .int .i64 (nw : Int) ∧ s14 = .int .i64 (wn : Int) ∧
    PlS w0 w bl i pb db (.slice a9 ps.length c9) ps (.slice a10 qs.length c10) qs rt sq nw wn F G D S C
theorem PlS.pack {w0 w : World} {bl i pb db : Nat} {va vd : Value} {ps qs : List PageD} {rt : List UInt8} {sq nw wn : Nat} {F G : Nat → Prop} {D : DiskS} {S : PgS} {C : Comm} (h : PlS w0 w bl i pb db va ps vd qs rt sq nw wn F G D S C) :
    PlE w0 w bl i db (.pointer (some ⟨pb, 0, none⟩)) va vd (.string (strB rt)) (.int .i64 (sq : Int)) (.int .i64 (nw : Int)) (.int .i64 (wn : Int)) := by
  obtain ⟨a9, c9, rfl⟩ := h.two.ra.len
  obtain ⟨a10, c10, rfl⟩ := h.two.rd.len
  exact ⟨pb, a9, c9, ps, a10, c10, qs, rt, sq, nw, wn, F, G, D, S, C, rfl, rfl, rfl, rfl, rfl, rfl, rfl, h⟩
theorem cnt_two (p q : Nat → Bool) (m : Nat) (hd : ∀ k, p k = true → q k = true → False) (hm : ∀ k, k < m → p k = false ∧ q k = false) : ∀ n, cnt p n + cnt q n ≤ n - m := by
  intro n
  induction n with
  | zero => exact Nat.zero_le _
  | succ n ih =>
    by_cases hn : n < m
    · obtain ⟨h1, h2⟩ := hm n hn
      have e1 : cnt p (n + 1) = cnt p n := by simp [cnt, h1]
      have e2 : cnt q (n + 1) = cnt q n := by simp [cnt, h2]
      rw [e1, e2]
      omega
    · have h1 : cnt p (n + 1) ≤ cnt p n + 1 := by simp only [cnt]; split <;> omega
      have h2 : cnt q (n + 1) ≤ cnt q n + 1 := by simp only [cnt]; split <;> omega
      cases hp : p n with
      | true =>
        have hq : q n = false := by
          cases hq : q n with
          | false => rfl
          | true => exact (hd n hp hq).elim
        have e2 : cnt q (n + 1) = cnt q n := by simp [cnt, hq]
        omega
      | false =>
        have e1 : cnt p (n + 1) = cnt p n := by simp [cnt, hp]
        omega
theorem left_pos {D : DiskS} {S : PgS} {C : Comm} (h : PgInv D S C) : 0 ≤ S.left := by
  have h1 := cnt_two C.has (fun k => (S.fresh k).isSome) (firstN D.blocks) (fun k hp hq => by
    obtain ⟨zs, hz⟩ := Option.isSome_iff_exists.1 hq
    have h2 := (h.wf.fresh k zs hz).2.2.1
    rw [h.has, hp] at h2
    cases h2) (fun k hk => by
    constructor
    · cases hp : C.has k with
      | false => rfl
      | true => have := (h.ok.first (n := k) hp).1; omega
    · cases hq : S.fresh k with
      | none => rfl
      | some zs => have := (h.wf.fresh k zs hq).1; rw [h.bl] at this; omega) D.blocks
  have h3 := h.ok.lo
  have h4 := firstN_le h.ok.wf.hi
  rw [h.left_eq, h.bl]
  omega
/-- What is at a number, or not. -/
theorem now_or (S : PgS) (C : Comm) (x : Int) : (∃ (n : Nat) (zs : List UInt8), x = (n : Int) ∧ nowP S C n = some zs) ∨ (0 ≤ x → nowP S C x.toNat = none) := by
  by_cases h0 : 0 ≤ x
  · cases hn : nowP S C x.toNat with
    | none => exact .inr (fun _ => rfl)
    | some zs => exact .inl ⟨x.toNat, zs, by omega, hn⟩
  · exact .inr (fun h => absurd h h0)
end Go.Proofs.Ytjbomdhlfjcgmaa
