import Derived.Test.YtehkgcmdndehaaaAnsE
import Derived.Laws.ResultCell
import Derived.Deep.MidRow
import Derived.Laws.CopyOwn
namespace Go.Proofs.Ytehkgcmdndehaaa
set_option linter.unusedSimpArgs false
set_option linter.unusedVariables false
open Go.RowKit

theorem results_cell_row_tmp {P : Program} {fn : Func} {p u : Tmp} {ty : TypeId} (h : fn.results = #[.cell p ty, .tmp u]) (tmps : Array Value) (w : World) (b : Nat) (hp : tmps.getD p undef = .pointer (some ⟨b, 0, none⟩))
    (cs : List Value) (d : TypeDesc) (hc : w.rangeAt b 0 cs) (hu : P.underlying ty = some d) (hd : d.isRow = true) (hi : (P.info? ty).map (·.size) = some cs.length) :
    (results fn tmps).run P w = .ok (.tuple #[.agg cs.toArray, tmps.getD u undef]) w := by
  rw [results_cell_tmp h, hp]
  have := run_loadVar_mid w b 0 ty cs d hc hu hd hi
  simp [asAddr, this]

theorem Reads.own_lt {w : World} {v : Value} {zs : List UInt8} (h : Reads w v zs) : ∀ k, v.ownBlock = some k → k < w.heap.size := by
  intro k e
  rcases h with ⟨rfl, _⟩ | ⟨b, off, cap, rfl, _, hb, _⟩
  · cases e
  · cases e; exact hb

def ParsePost (w : World) (p : AnsD × Int) (e : Ending) (w' : World) : Prop := e = .returned (.tuple #[p.1.value, .int .i64 p.2]) ∧ Below w.heap.size w w'

/-- An answer's block while it is read: w0 the world at the beginning, sb the result's block. -/
structure AnsAt (w0 W : World) (sb rb ab : Nat) (v : Value) (r : Rd) (a : AnsD) : Prop where
  lt : sb < rb ∧ sb < ab ∧ ab ≠ rb ∧ rb < W.heap.size ∧ ab < W.heap.size
  len : r.bs.length ≤ 1000000
  below : Below sb w0 W
  res : W.heap[sb]? = some (.cells ansZ.cells 38 (0, 0))
  rd : RdAt W rb v r
  own : v.ownBlock ≠ some ab
  cells : ∀ o u, a.cells[o]? = some u → W.cell? ⟨ab, o, none⟩ = some u
  frz : ∀ o, W.frozen? ⟨ab, o, none⟩ = false

theorem AnsAt.of_below {w0 W Wx : World} {sb rb ab : Nat} {v : Value} {r : Rd} {a : AnsD} (S : AnsAt w0 W sb rb ab v r a) (hB : Below W.heap.size W Wx) : AnsAt w0 Wx sb rb ab v r a := by
  have hsz := hB.size
  have hlt := S.lt
  refine ⟨⟨hlt.1, hlt.2.1, hlt.2.2.1, by omega, by omega⟩, S.len, S.below.trans (hB.mono (by omega)), (hB.block sb (by omega)).trans S.res, S.rd.of_below hlt.2.2.2.1 hB, S.own, fun o u h => ?_, fun o => ?_⟩
  · exact (hB.cell (p := ⟨ab, o, none⟩) hlt.2.2.2.2).trans (S.cells o u h)
  · exact (hB.frozen (p := ⟨ab, o, none⟩) hlt.2.2.2.2).trans (S.frz o)

theorem AnsAt.rds {w0 W w' : World} {sb rb ab : Nat} {v v' : Value} {r r' : Rd} {a : AnsD} (S : AnsAt w0 W sb rb ab v r a) (hr : Rds W w' rb) (hat : RdAt w' rb v' r') (ho : v'.ownBlock = v.ownBlock) (hl : r'.bs.length ≤ r.bs.length) : AnsAt w0 w' sb rb ab v' r' a := by
  have hsz := hr.size
  have hlt := S.lt
  refine ⟨⟨hlt.1, hlt.2.1, hlt.2.2.1, by omega, by omega⟩, Nat.le_trans hl S.len, S.below.trans (hr.below (by omega) (by omega)), (hr.block sb (by omega) (by omega)).trans S.res, hat, by rw [ho]; exact S.own, fun o u h => ?_, fun o => ?_⟩
  · exact (hr.cell (a := ⟨ab, o, none⟩) hlt.2.2.2.2 hlt.2.2.1).trans (S.cells o u h)
  · exact (hr.frozen (a := ⟨ab, o, none⟩) hlt.2.2.2.2 hlt.2.2.1).trans (S.frz o)

/-- A value that is read; the answer is as it was. -/
def AnsVal (w0 : World) (sb rb ab : Nat) (val : Value) (r' : Rd) (a : AnsD) (e : Ending) (w' : World) : Prop := e = .returned val ∧ ∃ v', AnsAt w0 w' sb rb ab v' r' a

theorem ans_one {w0 W : World} {sb rb ab : Nat} {v : Value} {r : Rd} {a : AnsD} (S : AnsAt w0 W sb rb ab v r a) :
    Calls Try.prog 45 #[.pointer (some ⟨rb, 0, none⟩)] W (AnsVal w0 sb rb ab (.int .i64 r.one.1) r.one.2 a) := by
  refine (frd_one rb v r W S.rd S.lt.2.2.2.1 (by have := S.len; omega)).mono ?_
  rintro e w' ⟨v', rfl, hat, hrs, hob⟩
  exact ⟨rfl, v', S.rds hrs hat hob r.one_le⟩
theorem ans_str {w0 W : World} {sb rb ab : Nat} {v : Value} {r : Rd} {a : AnsD} (S : AnsAt w0 W sb rb ab v r a) :
    Calls Try.prog 47 #[.pointer (some ⟨rb, 0, none⟩)] W (AnsVal w0 sb rb ab (.string (strB r.str.1)) r.str.2 a) := by
  refine (frd_str rb v r W S.rd S.lt.2.2.2.1 (by have := S.len; omega)).mono ?_
  rintro e w' ⟨v', rfl, hat, hrs, hob⟩
  exact ⟨rfl, v', S.rds hrs hat hob r.str_le⟩

theorem ans_ints {w0 W Wx : World} {sb rb ab : Nat} {v : Value} {r : Rd} {a : AnsD} (a' : AnsD) (ao : Option Addr) (offs : List Nat) (m c : Nat) (S : AnsAt w0 W sb rb ab v r a) (hB : Below W.heap.size W Wx) (hm : m = offs.length)
    (hl : offs.length < 1000) (hnd : offs.Nodup) (hin : ∀ o ∈ offs, ∃ u, a.cells[o]? = some u)
    (hps : ∀ k o, offs[k]? = some o → ∃ nb, ao = some ⟨nb, 0, none⟩ ∧ W.heap.size ≤ nb ∧ nb < Wx.heap.size ∧ Wx.cell? ⟨nb, k, none⟩ = some (.pointer (some ⟨ab, o, none⟩)))
    (ha : ∀ o u, a'.cells[o]? = some u → (o ∉ offs ∧ a.cells[o]? = some u) ∨ ∃ i, offs[i]? = some o ∧ u = .int .i64 ((Rd.ints m r).1.getD i 0)) :
    Calls Try.prog 46 #[.pointer (some ⟨rb, 0, none⟩), .slice ao m c] Wx (AnsVal w0 sb rb ab (.tuple #[]) (Rd.ints m r).2 a') := by
  subst hm
  have S' := S.of_below hB
  have hlt := S.lt
  have hlt' := S'.lt
  refine (frd_ints rb ab v ao offs _ c r Wx rfl S'.rd hlt'.2.2.2.1 hlt'.2.2.2.2 (by have := S.len; omega) hl hnd (fun e => absurd e hlt.2.2.1) S.own (fun k o h => ?_) (fun o h => ?_)).mono ?_
  · obtain ⟨nb, h1, h2, h3, h4⟩ := hps k o h
    exact ⟨nb, h1, h3, by omega, by omega, h4⟩
  · obtain ⟨u, hu⟩ := hin o h
    exact ⟨u, S'.cells o u hu, S'.frz o⟩
  · rintro e w' ⟨rfl, I⟩
    obtain ⟨v', hat, hob⟩ := I.rd
    have hsz := I.size
    refine ⟨rfl, v', ⟨hlt.1, hlt.2.1, hlt.2.2.1, by omega, by omega⟩, Nat.le_trans (Rd.ints_le _ r) S.len, S'.below.trans ⟨I.os, I.tape, I.output, I.size, fun k hk => I.block k (by omega) (by omega) (by omega)⟩,
      (I.block sb (by omega) (by omega) (by omega)).trans S'.res, hat, by rw [hob]; exact S.own, fun o u h => ?_, fun o => (I.frz ab o hlt'.2.2.2.2).trans (S'.frz o)⟩
    rcases ha o u h with ⟨h1, h2⟩ | ⟨i, h1, rfl⟩
    · exact (I.keep ab o hlt'.2.2.2.2 (fun e => absurd e hlt.2.2.1) (fun _ => h1)).trans (S'.cells o u h2)
    · exact I.vals i o h1

theorem head_in (e : Int) : ∀ o ∈ [1, 2, 3], ∃ u, (AnsD.cells ⟨e, 0, 0, 0, stmtZ⟩)[o]? = some u := by
  intro o ho
  simp only [List.mem_cons, List.not_mem_nil, or_false] at ho
  rcases ho with rfl | rfl | rfl
  · exact ⟨_, rfl⟩
  · exact ⟨_, rfl⟩
  · exact ⟨_, rfl⟩
theorem head_ax (e : Int) (ns : List Int) : ∀ o u, (AnsD.cells ⟨e, ns.getD 0 0, ns.getD 1 0, ns.getD 2 0, stmtZ⟩)[o]? = some u →
    (o ∉ [1, 2, 3] ∧ (AnsD.cells ⟨e, 0, 0, 0, stmtZ⟩)[o]? = some u) ∨ ∃ i, [1, 2, 3][i]? = some o ∧ u = .int .i64 (ns.getD i 0) := by
  intro o u h
  match o, h with
  | 0, h => exact .inl ⟨by decide, h⟩
  | 1, h => exact .inr ⟨0, rfl, (Option.some.inj h).symm⟩
  | 2, h => exact .inr ⟨1, rfl, (Option.some.inj h).symm⟩
  | 3, h => exact .inr ⟨2, rfl, (Option.some.inj h).symm⟩
  | o + 4, h => exact .inl ⟨by simp, h⟩

theorem ptrs_new (w : World) (ab : Nat) (offs : List Nat) (cs : Array Value) (T : TypeId) (hcs : cs = (offs.map fun o => Value.pointer (some ⟨ab, o, none⟩)).toArray) :
    ∀ k o, offs[k]? = some o → ∃ nb, (some ⟨w.heap.size, 0, none⟩ : Option Addr) = some ⟨nb, 0, none⟩ ∧ w.heap.size ≤ nb ∧ nb < (w.alloc (.cells cs T)).heap.size ∧ (w.alloc (.cells cs T)).cell? ⟨nb, k, none⟩ = some (.pointer (some ⟨ab, o, none⟩)) := by
  intro k o h
  refine ⟨_, rfl, Nat.le_refl _, by simp, ?_⟩
  rw [cell_of_row _ _ _ _ _ _ (heap_alloc_new _ _), hcs]
  simp [h]

theorem ans_head {w0 W : World} {sb rb ab : Nat} {v : Value} {r : Rd} {e : Int} (T : TypeId) (S : AnsAt w0 W sb rb ab v r ⟨e, 0, 0, 0, stmtZ⟩) :
    Calls Try.prog 46 #[.pointer (some ⟨rb, 0, none⟩), .slice (some ⟨W.heap.size, 0, none⟩) 3 3] (W.alloc (.cells #[.pointer (some ⟨ab, 1, none⟩), .pointer (some ⟨ab, 2, none⟩), .pointer (some ⟨ab, 3, none⟩)] T))
      (AnsVal w0 sb rb ab (.tuple #[]) (Rd.ints 3 r).2 ⟨e, (Rd.ints 3 r).1.getD 0 0, (Rd.ints 3 r).1.getD 1 0, (Rd.ints 3 r).1.getD 2 0, stmtZ⟩) := by
  have hin := head_in e
  have hax := head_ax e (Rd.ints 3 r).1
  have hps := ptrs_new W ab [1, 2, 3] _ T rfl
  have hnd : ([1, 2, 3] : List Nat).Nodup := by decide
  have hl : ([1, 2, 3] : List Nat).length < 1000 := by decide
  have hm : 3 = ([1, 2, 3] : List Nat).length := rfl
  exact ans_ints _ _ [1, 2, 3] 3 3 S (below_alloc _ _) hm hl hnd hin hps hax

theorem ans_one_cells (a : AnsD) : a.cells.all (·.oneCell') = true := by
  unfold AnsD.cells
  rw [Array.all_eq_true_iff_forall_mem]
  intro x hx
  simp only [List.mem_toArray, List.mem_cons, List.not_mem_nil, or_false] at hx
  rcases hx with rfl | rfl | rfl | rfl | rfl | rfl | rfl | rfl | rfl | rfl | rfl | rfl | rfl <;> rfl
theorem range_setRow {w : World} {sb : Nat} {cs old : Array Value} {T : TypeId} (hg : w.heap[sb]? = some (.cells old T (0, 0))) : (w.setRow sb cs).rangeAt sb 0 cs.toList := by
  intro j v hv
  rw [Nat.zero_add, cell_setRow_same _ _ _ _ _ _ _ hg]
  simpa using hv
theorem AnsAt.last {w0 W : World} {sb rb ab : Nat} {v : Value} {r : Rd} {a : AnsD} (S : AnsAt w0 W sb rb ab v r a) (hsb : w0.heap.size = sb) (cs : Array Value) : Below w0.heap.size w0 (W.setRow sb cs) := by
  subst hsb
  exact below_setRow S.below (Nat.le_refl _) cs

theorem parse_eq (zs : List UInt8) (e : Int × Rd) (l : List Int × Rd) (f : Int × Rd) (he : Rd.one ⟨zs, false⟩ = e) (hl : Rd.ints 3 e.2 = l) (hf : l.2.one = f) :
    parseAns zs = (if f.2.cut = false ∧ 1 < f.1 then (ansZ, 11) else
      let s := f.2.str
      let t := Rd.ints 8 s.2
      let last := if f.1 = 1 then t.2 else f.2
      let st := if f.1 = 1 then stmtOf s.1 t.1 else stmtZ
      if last.cut = true then (ansZ, 8) else
      if f.1 = 1 ∧ st.term = 0 then (ansZ, 11) else
      if 0 < last.bs.length then (ansZ, 9) else
      (⟨e.1, l.1.getD 0 0, l.1.getD 1 0, l.1.getD 2 0, st⟩, 0)) := by subst he hl hf; rfl

theorem AnsAt.set {w0 W : World} {sb rb ab : Nat} {v : Value} {r : Rd} {a : AnsD} (a' : AnsD) (o : Nat) (x : Value) (S : AnsAt w0 W sb rb ab v r a) (hin : ∃ u, a.cells[o]? = some u)
    (ha : ∀ o' u, a'.cells[o']? = some u → (o' ≠ o ∧ a.cells[o']? = some u) ∨ (o' = o ∧ u = x)) : AnsAt w0 (W.setCell ⟨ab, o, none⟩ x) sb rb ab v r a' := by
  have hlt := S.lt
  obtain ⟨u0, hu0⟩ := hin
  refine ⟨⟨hlt.1, hlt.2.1, hlt.2.2.1, by simpa [World.setCell] using hlt.2.2.2.1, by simpa [World.setCell] using hlt.2.2.2.2⟩, S.len, S.below.trans ⟨rfl, rfl, rfl, by simp [World.setCell], fun k hk => Below.heap_setCell _ _ _ _ (by show k ≠ ab; omega)⟩,
    (Below.heap_setCell _ _ _ _ (by show sb ≠ ab; omega)).trans S.res, S.rd.set (fun e => by cases e; exact hlt.2.2.1 rfl) (fun e => by cases e; exact hlt.2.2.1 rfl) S.own, S.own, fun o' u h => ?_, fun o' => by simpa using S.frz o'⟩
  rcases ha o' u h with ⟨h1, h2⟩ | ⟨rfl, rfl⟩
  · exact (cell_set_ne (fun e => by cases e; exact h1 rfl)).trans (S.cells o' u h2)
  · exact cell_set_same (S.cells _ _ hu0)

def tailP (e : Int) (ns : List Int) (last : Rd) (f1 : Int) (st : StmtD) : AnsD × Int :=
  if last.cut = true then (ansZ, 8) else
  if f1 = 1 ∧ st.term = 0 then (ansZ, 11) else
  if 0 < last.bs.length then (ansZ, 9) else
  (⟨e, ns.getD 0 0, ns.getD 1 0, ns.getD 2 0, st⟩, 0)
theorem parse_one (zs : List UInt8) (e : Int × Rd) (l : List Int × Rd) (fr : Rd) (he : Rd.one ⟨zs, false⟩ = e) (hl : Rd.ints 3 e.2 = l) (hf : l.2.one = (1, fr)) :
    parseAns zs = tailP e.1 l.1 (Rd.ints 8 fr.str.2).2 1 (stmtOf fr.str.1 (Rd.ints 8 fr.str.2).1) := by
  rw [parse_eq zs e l _ he hl hf]
  simp [tailP]
theorem parse_not (zs : List UInt8) (e : Int × Rd) (l : List Int × Rd) (f1 : Int) (fr : Rd) (he : Rd.one ⟨zs, false⟩ = e) (hl : Rd.ints 3 e.2 = l) (hf : l.2.one = (f1, fr)) (h1 : ¬ f1 = 1) (h2 : ¬ (fr.cut = false ∧ 1 < f1)) :
    parseAns zs = tailP e.1 l.1 fr f1 stmtZ := by
  rw [parse_eq zs e l _ he hl hf]
  simp only [if_neg h2, if_neg h1, tailP]
theorem parse_bad (zs : List UInt8) (e : Int × Rd) (l : List Int × Rd) (f1 : Int) (fr : Rd) (he : Rd.one ⟨zs, false⟩ = e) (hl : Rd.ints 3 e.2 = l) (hf : l.2.one = (f1, fr)) (h2 : fr.cut = false ∧ 1 < f1) :
    parseAns zs = (ansZ, 11) := by
  rw [parse_eq zs e l _ he hl hf]
  exact if_pos h2
theorem tail_cut {e : Int} {ns : List Int} {last : Rd} {f1 : Int} {st : StmtD} (h : last.cut = true) : tailP e ns last f1 st = (ansZ, 8) := if_pos h
theorem tail_term {e : Int} {ns : List Int} {last : Rd} {f1 : Int} {st : StmtD} (h : last.cut = false) (h1 : f1 = 1) (ht : st.term = 0) : tailP e ns last f1 st = (ansZ, 11) := by
  simp [tailP, h, h1, ht]
theorem tail_more {e : Int} {ns : List Int} {last : Rd} {f1 : Int} {st : StmtD} (h : last.cut = false) (h1 : ¬ (f1 = 1 ∧ st.term = 0)) (hl : 0 < last.bs.length) : tailP e ns last f1 st = (ansZ, 9) := by
  rw [tailP, if_neg (by simp [h]), if_neg h1, if_pos hl]
theorem tail_ok {e : Int} {ns : List Int} {last : Rd} {f1 : Int} {st : StmtD} (h : last.cut = false) (h1 : ¬ (f1 = 1 ∧ st.term = 0)) (hl : ¬ 0 < last.bs.length) : tailP e ns last f1 st = (⟨e, ns.getD 0 0, ns.getD 1 0, ns.getD 2 0, st⟩, 0) := by
  rw [tailP, if_neg (by simp [h]), if_neg h1, if_neg hl]

theorem stmt_in (e n0 n1 n2 : Int) (name : ByteArray) : ∀ o ∈ [4 + 1, 4 + 2, 4 + 3, 4 + 4, 4 + 5, 4 + 6, 4 + 7, 4 + 8], ∃ u, (AnsD.cells ⟨e, n0, n1, n2, ⟨name, 0, 0, 0, 0, 0, 0, 0, 0⟩⟩)[o]? = some u := by
  intro o ho
  simp only [List.mem_cons, List.not_mem_nil, or_false] at ho
  rcases ho with rfl | rfl | rfl | rfl | rfl | rfl | rfl | rfl <;> exact ⟨_, rfl⟩
theorem stmt_ax (e n0 n1 n2 : Int) (bs : List UInt8) (ns : List Int) : ∀ o u, (AnsD.cells ⟨e, n0, n1, n2, stmtOf bs ns⟩)[o]? = some u →
    (o ∉ [4 + 1, 4 + 2, 4 + 3, 4 + 4, 4 + 5, 4 + 6, 4 + 7, 4 + 8] ∧ (AnsD.cells ⟨e, n0, n1, n2, ⟨strB bs, 0, 0, 0, 0, 0, 0, 0, 0⟩⟩)[o]? = some u) ∨ ∃ i, [4 + 1, 4 + 2, 4 + 3, 4 + 4, 4 + 5, 4 + 6, 4 + 7, 4 + 8][i]? = some o ∧ u = .int .i64 (ns.getD i 0) := by
  intro o u h
  match o, h with
  | 0, h => exact .inl ⟨by decide, h⟩
  | 1, h => exact .inl ⟨by decide, h⟩
  | 2, h => exact .inl ⟨by decide, h⟩
  | 3, h => exact .inl ⟨by decide, h⟩
  | 4, h => exact .inl ⟨by decide, h⟩
  | 5, h => exact .inr ⟨0, rfl, (Option.some.inj h).symm⟩
  | 6, h => exact .inr ⟨1, rfl, (Option.some.inj h).symm⟩
  | 7, h => exact .inr ⟨2, rfl, (Option.some.inj h).symm⟩
  | 8, h => exact .inr ⟨3, rfl, (Option.some.inj h).symm⟩
  | 9, h => exact .inr ⟨4, rfl, (Option.some.inj h).symm⟩
  | 10, h => exact .inr ⟨5, rfl, (Option.some.inj h).symm⟩
  | 11, h => exact .inr ⟨6, rfl, (Option.some.inj h).symm⟩
  | 12, h => exact .inr ⟨7, rfl, (Option.some.inj h).symm⟩
  | o + 13, h => exact absurd h (by simp [AnsD.cells])
theorem name_ax (e n0 n1 n2 : Int) (s : ByteArray) : ∀ o' u, (AnsD.cells ⟨e, n0, n1, n2, ⟨s, 0, 0, 0, 0, 0, 0, 0, 0⟩⟩)[o']? = some u → (o' ≠ 4 ∧ (AnsD.cells ⟨e, n0, n1, n2, stmtZ⟩)[o']? = some u) ∨ (o' = 4 ∧ u = .string s) := by
  intro o u h
  match o, h with
  | 0, h => exact .inl ⟨by decide, h⟩
  | 1, h => exact .inl ⟨by decide, h⟩
  | 2, h => exact .inl ⟨by decide, h⟩
  | 3, h => exact .inl ⟨by decide, h⟩
  | 4, h => exact .inr ⟨rfl, (Option.some.inj h).symm⟩
  | o + 5, h => exact .inl ⟨by simp, h⟩

theorem ans_stmt {w0 W Wx : World} {sb rb ab : Nat} {v : Value} {r : Rd} {e n0 n1 n2 : Int} {bs : List UInt8} {ao : Option Addr} (S : AnsAt w0 W sb rb ab v r ⟨e, n0, n1, n2, ⟨strB bs, 0, 0, 0, 0, 0, 0, 0, 0⟩⟩) (hB : Below W.heap.size W Wx)
    (hP : ∀ k o, [4 + 1, 4 + 2, 4 + 3, 4 + 4, 4 + 5, 4 + 6, 4 + 7, 4 + 8][k]? = some o → ∃ nb, ao = some ⟨nb, 0, none⟩ ∧ W.heap.size ≤ nb ∧ nb < Wx.heap.size ∧ Wx.cell? ⟨nb, k, none⟩ = some (.pointer (some ⟨ab, o, none⟩))) :
    Calls Try.prog 46 #[.pointer (some ⟨rb, 0, none⟩), .slice ao 8 8] Wx
      (AnsVal w0 sb rb ab (.tuple #[]) (Rd.ints 8 r).2 ⟨e, n0, n1, n2, stmtOf bs (Rd.ints 8 r).1⟩) := by
  have hin := stmt_in e n0 n1 n2 (strB bs)
  have hax := stmt_ax e n0 n1 n2 bs (Rd.ints 8 r).1
  have hnd : ([4 + 1, 4 + 2, 4 + 3, 4 + 4, 4 + 5, 4 + 6, 4 + 7, 4 + 8] : List Nat).Nodup := by decide
  have hl : ([4 + 1, 4 + 2, 4 + 3, 4 + 4, 4 + 5, 4 + 6, 4 + 7, 4 + 8] : List Nat).length < 1000 := by decide
  have hm : 8 = ([4 + 1, 4 + 2, 4 + 3, 4 + 4, 4 + 5, 4 + 6, 4 + 7, 4 + 8] : List Nat).length := rfl
  exact ans_ints _ ao [4 + 1, 4 + 2, 4 + 3, 4 + 4, 4 + 5, 4 + 6, 4 + 7, 4 + 8] 8 8 S hB hm hl hnd hin hP hax

set_option maxHeartbeats 3200000 in
set_option maxRecDepth 100000 in
theorem fr_parse_ans (v : Value) (zs : List UInt8) (w : World) (h : Reads w v zs) (hl : zs.length ≤ 1000000) :
    Calls Try.prog 17 #[v] w (ParsePost w (parseAns zs)) := by
  have H := Lib.hid h
  clear h
  go_enter Try.func17, Try.ntmps17
  go_upto_region 1 with (fail)
  change Code.wp _ _ _ _ (w.alloc (.cells ansZ.cells 38))
  have hB0 := below_alloc w (.cells ansZ.cells 38)
  have res0 : (w.alloc (.cells ansZ.cells 38)).heap[w.heap.size]? = some (.cells ansZ.cells 38 (0, 0)) := heap_alloc_new _ _
  have hrd0 := H.out.below hB0
  have hs0 : (w.alloc (.cells ansZ.cells 38)).heap.size = w.heap.size + 1 := by simp
  generalize w.alloc (.cells ansZ.cells 38) = W0 at *
  generalize hsb : w.heap.size = sb at *
  have HSB := Lib.hid hsb
  have HB0 := Lib.hid hB0
  have RES0 := Lib.hid res0
  have RD0 := Lib.hid hrd0
  clear hsb hB0 res0 hrd0
  go_upto_region 2 with (go_at_call 44; refine (clone_bytes v zs W0 RD0.out (fits_of _ (by omega))).mono ?_; rintro e w1 ⟨v1, rfl, hrd1, hown1, hB1⟩; obtain ⟨a1, c1, rfl⟩ := hrd1.len)
  have hs1 := hB1.size
  have res1 : (w1.alloc (.cells #[.slice a1 zs.length c1, .bool false] 72)).heap[sb]? = some (.cells ansZ.cells 38 (0, 0)) :=
    ((below_alloc w1 _).block sb (by omega)).trans ((hB1.block sb (by omega)).trans RES0.out)
  have hwB : Below sb w (w1.alloc (.cells #[.slice a1 zs.length c1, .bool false] 72)) := HB0.out.trans ((hB1.mono (by omega)).trans ((below_alloc w1 _).mono (by omega)))
  have hrow := heap_alloc_new w1 (.cells #[.slice a1 zs.length c1, .bool false] 72)
  have hat : RdAt (w1.alloc (.cells #[.slice a1 zs.length c1, .bool false] 72)) w1.heap.size (.slice a1 zs.length c1) ⟨zs, false⟩ :=
    ⟨(cell_of_row _ _ _ _ _ _ hrow).trans rfl, (cell_of_row _ _ _ _ _ _ hrow).trans rfl, frozen_of_row _ _ _ _ _ hrow, frozen_of_row _ _ _ _ _ hrow, hrd1.below (below_alloc w1 _), fun e => by have := hrd1.own_lt _ e; omega⟩
  have hown : (Value.slice a1 zs.length c1).ownBlock ≠ some sb ∧ ∀ k, w1.heap.size < k → (Value.slice a1 zs.length c1).ownBlock ≠ some k := by
    refine ⟨fun e => by have := hown1 sb e; omega, fun k hk e => ?_⟩
    have := hrd1.own_lt _ e; omega
  have hs2 : (w1.alloc (.cells #[.slice a1 zs.length c1, .bool false] 72)).heap.size = w1.heap.size + 1 := by simp
  generalize w1.alloc (.cells #[.slice a1 zs.length c1, .bool false] 72) = W1 at *
  have hsr : sb < w1.heap.size := by omega
  generalize w1.heap.size = rb at *
  generalize Value.slice a1 zs.length c1 = vr at *
  have RES1 := Lib.hid res1
  have WB1 := Lib.hid hwB
  have AT1 := Lib.hid hat
  have OWN1 := Lib.hid hown
  have hrb : rb < W1.heap.size := by omega
  clear res1 hwB hat hown hrow hrd1 hown1 hB1 hs1 RES0 RD0 HB0 H
  go_upto_region 3 with (go_at_call 45; refine (frd_one rb vr ⟨zs, false⟩ W1 AT1.out hrb (by show zs.length ≤ _; omega)).mono ?_; rintro e w2 ⟨v2, rfl, hat2, hrs2, hob2⟩)
  generalize he : Rd.one ⟨zs, false⟩ = e1 at *
  change Code.wp _ _ _ _ (w2.alloc (.cells (AnsD.cells ⟨e1.1, 0, 0, 0, stmtZ⟩) 38))
  have hs2 := hrs2.size
  have hab := heap_alloc_new w2 (.cells (AnsD.cells ⟨e1.1, 0, 0, 0, stmtZ⟩) 38)
  have hal := below_alloc w2 (.cells (AnsD.cells ⟨e1.1, 0, 0, 0, stmtZ⟩) 38)
  have hsz3 : (w2.alloc (.cells (AnsD.cells ⟨e1.1, 0, 0, 0, stmtZ⟩) 38)).heap.size = w2.heap.size + 1 := by simp
  have S0 : AnsAt w (w2.alloc (.cells (AnsD.cells ⟨e1.1, 0, 0, 0, stmtZ⟩) 38)) sb rb w2.heap.size v2 e1.2 ⟨e1.1, 0, 0, 0, stmtZ⟩ := by
    refine ⟨⟨hsr, by omega, by omega, by omega, by omega⟩, ?_, WB1.out.trans ((hrs2.below (by omega) (by omega)).trans (hal.mono (by omega))), (hal.block sb (by omega)).trans ((hrs2.block sb (by omega) (by omega)).trans RES1.out), hat2.of_below (by omega) hal, ?_, fun o u h => ?_, fun o => frozen_of_row _ _ _ _ _ hab⟩
    · have := Rd.one_le ⟨zs, false⟩; rw [he] at this; exact Nat.le_trans this hl
    · rw [hob2]; exact OWN1.out.2 _ (by omega)
    · rw [cell_of_row _ _ _ _ _ _ hab]; exact h
  have T0 := Lib.hid S0
  have HE := Lib.hid he
  generalize w2.alloc (.cells (AnsD.cells ⟨e1.1, 0, 0, 0, stmtZ⟩) 38) = W3 at *
  generalize w2.heap.size = ab at *
  clear S0 he hab hal hat2 hrs2 hob2 RES1 WB1 AT1 OWN1 hs2 hsz3 hs0
  go_upto_region 4 with (go_at_call 46; refine (ans_head _ T0.out).mono ?_; rintro e w4 ⟨rfl, v4, S4⟩)
  have T4 : Hid (AnsAt w w4 sb rb ab v4 (Rd.ints 3 e1.2).2 ⟨e1.1, (Rd.ints 3 e1.2).1.getD 0 0, (Rd.ints 3 e1.2).1.getD 1 0, (Rd.ints 3 e1.2).1.getD 2 0, stmtZ⟩) := Lib.hid S4
  clear S4 T0
  generalize hl3 : Rd.ints 3 e1.2 = l at *
  have HL := Lib.hid hl3
  clear hl3
  go_upto_region 5 with (go_at_call 45; refine (ans_one T4.out).mono ?_; rintro e w5 ⟨rfl, v5, S5⟩)
  have T5 := Lib.hid S5
  clear S5 T4
  generalize hf : l.2.one = f at *
  have hf01 : 0 ≤ f.1 ∧ f.1 ≤ 255 := by
    rw [← hf]; unfold Rd.one
    have := ((l.2.take 1).1.getD 0 0).toNat_lt
    constructor
    · simp only []; omega
    · simp only []; omega
  obtain ⟨f1, fr⟩ := f
  have HF := Lib.hid hf
  clear hf
  simp only [] at T5 hf01
  have kc := T5.out.rd.c1
  try simp only [] at kc
  cases hcut0 : fr.cut with
  | false =>
    rw [hcut0] at kc
    by_cases h1 : 1 < f1
    · have HQ := Lib.hid (parse_bad zs e1 l f1 fr HE.out HL.out HF.out ⟨hcut0, h1⟩)
      clear hcut0
      go_upto_region 6 with (fail)
      go_step
      refine wpList_build_at _ rfl 38 _ rfl ansZ.cells (by kernel_rfl) ?_
      refine wpList_store_row rfl 38 (.tmp 2) (.tmp 31) rfl sb ansZ.cells rfl rfl 38 ansZ.cells T5.out.res (by kernel_rfl) rfl (ans_one_cells ansZ) ?_
      go_wp2
      (try simp only [Exit.inBlock, Exit.then])
      refine bodyPost_ret (results_cell_row_tmp rfl _ _ sb rfl (ansZ.cells).toList _ (range_setRow T5.out.res) Try.underlying38 rfl (by kernel_rfl)) rfl ?_
      exact ⟨by rw [HQ.out]; rfl, T5.out.last HSB.out _⟩
    · have H5 : Hid (¬ (fr.cut = false ∧ 1 < f1)) := Lib.hid (fun h => h1 h.2)
      clear hcut0
      go_upto_region 7 with (fail)
      clear kc
      by_cases hf1 : f1 = 1
      · subst hf1
        have HQ := Lib.hid (parse_one zs e1 l fr HE.out HL.out HF.out)
        go_upto_region 9 with (go_at_call 47; refine (ans_str T5.out).mono ?_; rintro e w6 ⟨rfl, v6, S6⟩; have k4 := S6.cells 4 _ rfl; have kf4 := S6.frz 4; have T6 := Lib.hid S6; clear S6)
        have S7 := AnsAt.set ⟨e1.1, l.1.getD 0 0, l.1.getD 1 0, l.1.getD 2 0, ⟨strB fr.str.1, 0, 0, 0, 0, 0, 0, 0, 0⟩⟩ 4 (.string (strB fr.str.1)) T6.out ⟨_, rfl⟩ (name_ax _ _ _ _ _)
        generalize w6.setCell ⟨ab, 4, none⟩ (.string (strB fr.str.1)) = w7 at *
        have T7 := Lib.hid S7
        clear S7 k4 kf4 T6
        go_upto_region 10 with (first | (go_at_call 43; refine (fr_statement ab 4 w7).mono ?_; rintro e w8 ⟨ao, rfl, hB8, hP8⟩; have HB8 := Lib.hid hB8; have HP8 := Lib.hid hP8; clear hB8 hP8) | (go_at_call 46; refine (ans_stmt T7.out HB8.out HP8.out).mono ?_; rintro e w9 ⟨rfl, v9, S9⟩))
        have T9 := Lib.hid S9
        clear S9
        have kc := T9.out.rd.c1
        cases hcut : ((Rd.ints 8 fr.str.2).2).cut with
        | true =>
          rw [hcut] at kc
          have PC := Lib.hid hcut
          clear hcut
          go_upto_region 11 with (fail)
          go_step
          refine wpList_build_at _ rfl 38 _ rfl ansZ.cells (by kernel_rfl) ?_
          refine wpList_store_row rfl 38 (.tmp 2) (.tmp 47) rfl sb ansZ.cells rfl rfl 38 ansZ.cells T9.out.res (by kernel_rfl) rfl (ans_one_cells ansZ) ?_
          go_wp2
          (try simp only [Exit.inBlock, Exit.then])
          refine bodyPost_ret (results_cell_row_tmp rfl _ _ sb rfl (ansZ.cells).toList _ (range_setRow T9.out.res) Try.underlying38 rfl (by kernel_rfl)) rfl ?_
          exact ⟨by rw [HQ.out, tail_cut PC.out]; rfl, T9.out.last HSB.out _⟩
        | false =>
          rw [hcut] at kc
          have PC := Lib.hid hcut
          clear hcut
          have k5 : w9.cell? ⟨ab, 5, none⟩ = some (.int .i64 ((stmtOf fr.str.1 (Rd.ints 8 fr.str.2).1)).term) := T9.out.cells 5 _ rfl
          generalize htm : ((stmtOf fr.str.1 (Rd.ints 8 fr.str.2).1)).term = tm at k5
          by_cases hterm : tm = 0
          · have PT := Lib.hid (htm.trans hterm)
            subst hterm
            clear htm
            go_upto_region 13 with (fail)
            go_step
            refine wpList_build_at _ rfl 38 _ rfl ansZ.cells (by kernel_rfl) ?_
            refine wpList_store_row rfl 38 (.tmp 2) (.tmp 57) rfl sb ansZ.cells rfl rfl 38 ansZ.cells T9.out.res (by kernel_rfl) rfl (ans_one_cells ansZ) ?_
            go_wp2
            (try simp only [Exit.inBlock, Exit.then])
            refine bodyPost_ret (results_cell_row_tmp rfl _ _ sb rfl (ansZ.cells).toList _ (range_setRow T9.out.res) Try.underlying38 rfl (by kernel_rfl)) rfl ?_
            exact ⟨by rw [HQ.out, tail_term PC.out rfl PT.out]; rfl, T9.out.last HSB.out _⟩
          have PT : Hid (¬ ((stmtOf fr.str.1 (Rd.ints 8 fr.str.2).1)).term = 0) := Lib.hid (fun h => hterm (htm.symm.trans h))
          clear htm
          obtain ⟨a9, c9, hv9⟩ := T9.out.rd.reads.len
          have k0 := T9.out.rd.c0
          rw [hv9] at k0
          have HV9 := Lib.hid hv9
          clear hv9
          by_cases hlen : 0 < ((Rd.ints 8 fr.str.2).2).bs.length
          · have PL := Lib.hid hlen
            have hlen' : (0 : Int) < (((Rd.ints 8 fr.str.2).2).bs.length : Int) := by omega
            go_upto_region 15 with (fail)
            go_step
            refine wpList_build_at _ rfl 38 _ rfl ansZ.cells (by kernel_rfl) ?_
            refine wpList_store_row rfl 38 (.tmp 2) (.tmp 65) rfl sb ansZ.cells rfl rfl 38 ansZ.cells T9.out.res (by kernel_rfl) rfl (ans_one_cells ansZ) ?_
            go_wp2
            (try simp only [Exit.inBlock, Exit.then])
            refine bodyPost_ret (results_cell_row_tmp rfl _ _ sb rfl (ansZ.cells).toList _ (range_setRow T9.out.res) Try.underlying38 rfl (by kernel_rfl)) rfl ?_
            exact ⟨by rw [HQ.out, tail_more PC.out (fun h => PT.out h.2) PL.out]; rfl, T9.out.last HSB.out _⟩
          · have PL := Lib.hid hlen
            have hlen' : ¬ (0 : Int) < (((Rd.ints 8 fr.str.2).2).bs.length : Int) := by omega
            go_upto_region 16 with (fail)
            go_step
            refine wpList_load_mid rfl 38 (.tmp 5) rfl ab 0 rfl ((AnsD.mk e1.1 (l.1.getD 0 0) (l.1.getD 1 0) (l.1.getD 2 0) (stmtOf fr.str.1 (Rd.ints 8 fr.str.2).1))).cells.toList _ (fun j u hj => by rw [Nat.zero_add]; exact T9.out.cells j u (by simpa using hj)) Try.underlying38 rfl (by kernel_rfl) ?_
            refine wpList_store_row rfl 38 (.tmp 2) (.tmp 66) rfl sb ((AnsD.mk e1.1 (l.1.getD 0 0) (l.1.getD 1 0) (l.1.getD 2 0) (stmtOf fr.str.1 (Rd.ints 8 fr.str.2).1))).cells rfl rfl 38 ansZ.cells T9.out.res (by kernel_rfl) rfl (ans_one_cells _) ?_
            go_wp2
            (try simp only [Exit.inBlock, Exit.then])
            refine bodyPost_ret (results_cell_row_tmp rfl _ _ sb rfl (((AnsD.mk e1.1 (l.1.getD 0 0) (l.1.getD 1 0) (l.1.getD 2 0) (stmtOf fr.str.1 (Rd.ints 8 fr.str.2).1))).cells).toList _ (range_setRow T9.out.res) Try.underlying38 rfl (by kernel_rfl)) rfl ?_
            exact ⟨by rw [HQ.out, tail_ok PC.out (fun h => PT.out h.2) PL.out]; rfl, T9.out.last HSB.out _⟩
      · have HQ := Lib.hid (parse_not zs e1 l f1 fr HE.out HL.out HF.out hf1 H5.out)
        have kc := T5.out.rd.c1
        cases hcut : (fr).cut with
        | true =>
          rw [hcut] at kc
          have PC := Lib.hid hcut
          clear hcut
          go_upto_region 11 with (fail)
          go_step
          refine wpList_build_at _ rfl 38 _ rfl ansZ.cells (by kernel_rfl) ?_
          refine wpList_store_row rfl 38 (.tmp 2) (.tmp 47) rfl sb ansZ.cells rfl rfl 38 ansZ.cells T5.out.res (by kernel_rfl) rfl (ans_one_cells ansZ) ?_
          go_wp2
          (try simp only [Exit.inBlock, Exit.then])
          refine bodyPost_ret (results_cell_row_tmp rfl _ _ sb rfl (ansZ.cells).toList _ (range_setRow T5.out.res) Try.underlying38 rfl (by kernel_rfl)) rfl ?_
          exact ⟨by rw [HQ.out, tail_cut PC.out]; rfl, T5.out.last HSB.out _⟩
        | false =>
          rw [hcut] at kc
          have PC := Lib.hid hcut
          clear hcut
          have PT : Hid (¬ f1 = 1) := Lib.hid hf1
          obtain ⟨a9, c9, hv9⟩ := T5.out.rd.reads.len
          have k0 := T5.out.rd.c0
          rw [hv9] at k0
          have HV9 := Lib.hid hv9
          clear hv9
          by_cases hlen : 0 < (fr).bs.length
          · have PL := Lib.hid hlen
            have hlen' : (0 : Int) < ((fr).bs.length : Int) := by omega
            go_upto_region 15 with (fail)
            go_step
            refine wpList_build_at _ rfl 38 _ rfl ansZ.cells (by kernel_rfl) ?_
            refine wpList_store_row rfl 38 (.tmp 2) (.tmp 65) rfl sb ansZ.cells rfl rfl 38 ansZ.cells T5.out.res (by kernel_rfl) rfl (ans_one_cells ansZ) ?_
            go_wp2
            (try simp only [Exit.inBlock, Exit.then])
            refine bodyPost_ret (results_cell_row_tmp rfl _ _ sb rfl (ansZ.cells).toList _ (range_setRow T5.out.res) Try.underlying38 rfl (by kernel_rfl)) rfl ?_
            exact ⟨by rw [HQ.out, tail_more PC.out (fun h => PT.out h.1) PL.out]; rfl, T5.out.last HSB.out _⟩
          · have PL := Lib.hid hlen
            have hlen' : ¬ (0 : Int) < ((fr).bs.length : Int) := by omega
            go_upto_region 16 with (fail)
            go_step
            refine wpList_load_mid rfl 38 (.tmp 5) rfl ab 0 rfl ((AnsD.mk e1.1 (l.1.getD 0 0) (l.1.getD 1 0) (l.1.getD 2 0) stmtZ)).cells.toList _ (fun j u hj => by rw [Nat.zero_add]; exact T5.out.cells j u (by simpa using hj)) Try.underlying38 rfl (by kernel_rfl) ?_
            refine wpList_store_row rfl 38 (.tmp 2) (.tmp 66) rfl sb ((AnsD.mk e1.1 (l.1.getD 0 0) (l.1.getD 1 0) (l.1.getD 2 0) stmtZ)).cells rfl rfl 38 ansZ.cells T5.out.res (by kernel_rfl) rfl (ans_one_cells _) ?_
            go_wp2
            (try simp only [Exit.inBlock, Exit.then])
            refine bodyPost_ret (results_cell_row_tmp rfl _ _ sb rfl (((AnsD.mk e1.1 (l.1.getD 0 0) (l.1.getD 1 0) (l.1.getD 2 0) stmtZ)).cells).toList _ (range_setRow T5.out.res) Try.underlying38 rfl (by kernel_rfl)) rfl ?_
            exact ⟨by rw [HQ.out, tail_ok PC.out (fun h => PT.out h.1) PL.out]; rfl, T5.out.last HSB.out _⟩
  | true =>
    rw [hcut0] at kc
    have H5 : Hid (¬ (fr.cut = false ∧ 1 < f1)) := Lib.hid (fun h => by rw [hcut0] at h; cases h.1)
    clear hcut0
    go_upto_region 7 with (fail)
    clear kc
    by_cases hf1 : f1 = 1
    · subst hf1
      have HQ := Lib.hid (parse_one zs e1 l fr HE.out HL.out HF.out)
      go_upto_region 9 with (go_at_call 47; refine (ans_str T5.out).mono ?_; rintro e w6 ⟨rfl, v6, S6⟩; have k4 := S6.cells 4 _ rfl; have kf4 := S6.frz 4; have T6 := Lib.hid S6; clear S6)
      have S7 := AnsAt.set ⟨e1.1, l.1.getD 0 0, l.1.getD 1 0, l.1.getD 2 0, ⟨strB fr.str.1, 0, 0, 0, 0, 0, 0, 0, 0⟩⟩ 4 (.string (strB fr.str.1)) T6.out ⟨_, rfl⟩ (name_ax _ _ _ _ _)
      generalize w6.setCell ⟨ab, 4, none⟩ (.string (strB fr.str.1)) = w7 at *
      have T7 := Lib.hid S7
      clear S7 k4 kf4 T6
      go_upto_region 10 with (first | (go_at_call 43; refine (fr_statement ab 4 w7).mono ?_; rintro e w8 ⟨ao, rfl, hB8, hP8⟩; have HB8 := Lib.hid hB8; have HP8 := Lib.hid hP8; clear hB8 hP8) | (go_at_call 46; refine (ans_stmt T7.out HB8.out HP8.out).mono ?_; rintro e w9 ⟨rfl, v9, S9⟩))
      have T9 := Lib.hid S9
      clear S9
      have kc := T9.out.rd.c1
      cases hcut : ((Rd.ints 8 fr.str.2).2).cut with
      | true =>
        rw [hcut] at kc
        have PC := Lib.hid hcut
        clear hcut
        go_upto_region 11 with (fail)
        go_step
        refine wpList_build_at _ rfl 38 _ rfl ansZ.cells (by kernel_rfl) ?_
        refine wpList_store_row rfl 38 (.tmp 2) (.tmp 47) rfl sb ansZ.cells rfl rfl 38 ansZ.cells T9.out.res (by kernel_rfl) rfl (ans_one_cells ansZ) ?_
        go_wp2
        (try simp only [Exit.inBlock, Exit.then])
        refine bodyPost_ret (results_cell_row_tmp rfl _ _ sb rfl (ansZ.cells).toList _ (range_setRow T9.out.res) Try.underlying38 rfl (by kernel_rfl)) rfl ?_
        exact ⟨by rw [HQ.out, tail_cut PC.out]; rfl, T9.out.last HSB.out _⟩
      | false =>
        rw [hcut] at kc
        have PC := Lib.hid hcut
        clear hcut
        have k5 : w9.cell? ⟨ab, 5, none⟩ = some (.int .i64 ((stmtOf fr.str.1 (Rd.ints 8 fr.str.2).1)).term) := T9.out.cells 5 _ rfl
        generalize htm : ((stmtOf fr.str.1 (Rd.ints 8 fr.str.2).1)).term = tm at k5
        by_cases hterm : tm = 0
        · have PT := Lib.hid (htm.trans hterm)
          subst hterm
          clear htm
          go_upto_region 13 with (fail)
          go_step
          refine wpList_build_at _ rfl 38 _ rfl ansZ.cells (by kernel_rfl) ?_
          refine wpList_store_row rfl 38 (.tmp 2) (.tmp 57) rfl sb ansZ.cells rfl rfl 38 ansZ.cells T9.out.res (by kernel_rfl) rfl (ans_one_cells ansZ) ?_
          go_wp2
          (try simp only [Exit.inBlock, Exit.then])
          refine bodyPost_ret (results_cell_row_tmp rfl _ _ sb rfl (ansZ.cells).toList _ (range_setRow T9.out.res) Try.underlying38 rfl (by kernel_rfl)) rfl ?_
          exact ⟨by rw [HQ.out, tail_term PC.out rfl PT.out]; rfl, T9.out.last HSB.out _⟩
        have PT : Hid (¬ ((stmtOf fr.str.1 (Rd.ints 8 fr.str.2).1)).term = 0) := Lib.hid (fun h => hterm (htm.symm.trans h))
        clear htm
        obtain ⟨a9, c9, hv9⟩ := T9.out.rd.reads.len
        have k0 := T9.out.rd.c0
        rw [hv9] at k0
        have HV9 := Lib.hid hv9
        clear hv9
        by_cases hlen : 0 < ((Rd.ints 8 fr.str.2).2).bs.length
        · have PL := Lib.hid hlen
          have hlen' : (0 : Int) < (((Rd.ints 8 fr.str.2).2).bs.length : Int) := by omega
          go_upto_region 15 with (fail)
          go_step
          refine wpList_build_at _ rfl 38 _ rfl ansZ.cells (by kernel_rfl) ?_
          refine wpList_store_row rfl 38 (.tmp 2) (.tmp 65) rfl sb ansZ.cells rfl rfl 38 ansZ.cells T9.out.res (by kernel_rfl) rfl (ans_one_cells ansZ) ?_
          go_wp2
          (try simp only [Exit.inBlock, Exit.then])
          refine bodyPost_ret (results_cell_row_tmp rfl _ _ sb rfl (ansZ.cells).toList _ (range_setRow T9.out.res) Try.underlying38 rfl (by kernel_rfl)) rfl ?_
          exact ⟨by rw [HQ.out, tail_more PC.out (fun h => PT.out h.2) PL.out]; rfl, T9.out.last HSB.out _⟩
        · have PL := Lib.hid hlen
          have hlen' : ¬ (0 : Int) < (((Rd.ints 8 fr.str.2).2).bs.length : Int) := by omega
          go_upto_region 16 with (fail)
          go_step
          refine wpList_load_mid rfl 38 (.tmp 5) rfl ab 0 rfl ((AnsD.mk e1.1 (l.1.getD 0 0) (l.1.getD 1 0) (l.1.getD 2 0) (stmtOf fr.str.1 (Rd.ints 8 fr.str.2).1))).cells.toList _ (fun j u hj => by rw [Nat.zero_add]; exact T9.out.cells j u (by simpa using hj)) Try.underlying38 rfl (by kernel_rfl) ?_
          refine wpList_store_row rfl 38 (.tmp 2) (.tmp 66) rfl sb ((AnsD.mk e1.1 (l.1.getD 0 0) (l.1.getD 1 0) (l.1.getD 2 0) (stmtOf fr.str.1 (Rd.ints 8 fr.str.2).1))).cells rfl rfl 38 ansZ.cells T9.out.res (by kernel_rfl) rfl (ans_one_cells _) ?_
          go_wp2
          (try simp only [Exit.inBlock, Exit.then])
          refine bodyPost_ret (results_cell_row_tmp rfl _ _ sb rfl (((AnsD.mk e1.1 (l.1.getD 0 0) (l.1.getD 1 0) (l.1.getD 2 0) (stmtOf fr.str.1 (Rd.ints 8 fr.str.2).1))).cells).toList _ (range_setRow T9.out.res) Try.underlying38 rfl (by kernel_rfl)) rfl ?_
          exact ⟨by rw [HQ.out, tail_ok PC.out (fun h => PT.out h.2) PL.out]; rfl, T9.out.last HSB.out _⟩
    · have HQ := Lib.hid (parse_not zs e1 l f1 fr HE.out HL.out HF.out hf1 H5.out)
      have kc := T5.out.rd.c1
      cases hcut : (fr).cut with
      | true =>
        rw [hcut] at kc
        have PC := Lib.hid hcut
        clear hcut
        go_upto_region 11 with (fail)
        go_step
        refine wpList_build_at _ rfl 38 _ rfl ansZ.cells (by kernel_rfl) ?_
        refine wpList_store_row rfl 38 (.tmp 2) (.tmp 47) rfl sb ansZ.cells rfl rfl 38 ansZ.cells T5.out.res (by kernel_rfl) rfl (ans_one_cells ansZ) ?_
        go_wp2
        (try simp only [Exit.inBlock, Exit.then])
        refine bodyPost_ret (results_cell_row_tmp rfl _ _ sb rfl (ansZ.cells).toList _ (range_setRow T5.out.res) Try.underlying38 rfl (by kernel_rfl)) rfl ?_
        exact ⟨by rw [HQ.out, tail_cut PC.out]; rfl, T5.out.last HSB.out _⟩
      | false =>
        rw [hcut] at kc
        have PC := Lib.hid hcut
        clear hcut
        have PT : Hid (¬ f1 = 1) := Lib.hid hf1
        obtain ⟨a9, c9, hv9⟩ := T5.out.rd.reads.len
        have k0 := T5.out.rd.c0
        rw [hv9] at k0
        have HV9 := Lib.hid hv9
        clear hv9
        by_cases hlen : 0 < (fr).bs.length
        · have PL := Lib.hid hlen
          have hlen' : (0 : Int) < ((fr).bs.length : Int) := by omega
          go_upto_region 15 with (fail)
          go_step
          refine wpList_build_at _ rfl 38 _ rfl ansZ.cells (by kernel_rfl) ?_
          refine wpList_store_row rfl 38 (.tmp 2) (.tmp 65) rfl sb ansZ.cells rfl rfl 38 ansZ.cells T5.out.res (by kernel_rfl) rfl (ans_one_cells ansZ) ?_
          go_wp2
          (try simp only [Exit.inBlock, Exit.then])
          refine bodyPost_ret (results_cell_row_tmp rfl _ _ sb rfl (ansZ.cells).toList _ (range_setRow T5.out.res) Try.underlying38 rfl (by kernel_rfl)) rfl ?_
          exact ⟨by rw [HQ.out, tail_more PC.out (fun h => PT.out h.1) PL.out]; rfl, T5.out.last HSB.out _⟩
        · have PL := Lib.hid hlen
          have hlen' : ¬ (0 : Int) < ((fr).bs.length : Int) := by omega
          go_upto_region 16 with (fail)
          go_step
          refine wpList_load_mid rfl 38 (.tmp 5) rfl ab 0 rfl ((AnsD.mk e1.1 (l.1.getD 0 0) (l.1.getD 1 0) (l.1.getD 2 0) stmtZ)).cells.toList _ (fun j u hj => by rw [Nat.zero_add]; exact T5.out.cells j u (by simpa using hj)) Try.underlying38 rfl (by kernel_rfl) ?_
          refine wpList_store_row rfl 38 (.tmp 2) (.tmp 66) rfl sb ((AnsD.mk e1.1 (l.1.getD 0 0) (l.1.getD 1 0) (l.1.getD 2 0) stmtZ)).cells rfl rfl 38 ansZ.cells T5.out.res (by kernel_rfl) rfl (ans_one_cells _) ?_
          go_wp2
          (try simp only [Exit.inBlock, Exit.then])
          refine bodyPost_ret (results_cell_row_tmp rfl _ _ sb rfl (((AnsD.mk e1.1 (l.1.getD 0 0) (l.1.getD 1 0) (l.1.getD 2 0) stmtZ)).cells).toList _ (range_setRow T5.out.res) Try.underlying38 rfl (by kernel_rfl)) rfl ?_
          exact ⟨by rw [HQ.out, tail_ok PC.out (fun h => PT.out h.1) PL.out]; rfl, T5.out.last HSB.out _⟩
end Go.Proofs.Ytehkgcmdndehaaa
