/-
  The laws of pagers: lists of pages (number, bytes); at, without, holds.
-/
import Derived.Test.YtjbomdhlfjcgmaaPgI
namespace Go.Proofs.Ytjbomdhlfjcgmaa
set_option linter.unusedSimpArgs false
set_option linter.unusedVariables false
open Go.RowKit

abbrev PageD := Nat × List UInt8
def PageD.cells (p : PageD) : List Value := [.int .i64 (p.1 : Int), .string (strB p.2)]
def pgCells (ps : List PageD) : List Value := ps.flatMap PageD.cells
theorem pgCells_length (ps : List PageD) : (pgCells ps).length = ps.length * 2 := by
  induction ps with
  | nil => rfl
  | cons p ps ih => simp only [pgCells, List.flatMap_cons, List.length_append, List.length_cons] at *; rw [ih]; show 2 + _ = _; omega
theorem pgCells_append (ps qs : List PageD) : pgCells (ps ++ qs) = pgCells ps ++ pgCells qs := List.flatMap_append
theorem pgCells_at (ps : List PageD) : ∀ (i : Nat) (p : PageD), ps[i]? = some p → (pgCells ps)[i * 2]? = some (.int .i64 (p.1 : Int)) ∧ (pgCells ps)[i * 2 + 1]? = some (.string (strB p.2)) := by
  induction ps with
  | nil => intro i p h; simp at h
  | cons q ps ih =>
    intro i p h
    have e : pgCells (q :: ps) = .int .i64 (q.1 : Int) :: .string (strB q.2) :: pgCells ps := rfl
    rw [e]
    cases i with
    | zero => simp at h; subst h; exact ⟨rfl, rfl⟩
    | succ i =>
      rw [List.getElem?_cons_succ] at h
      rw [show (i + 1) * 2 = i * 2 + 1 + 1 by omega]
      exact ih i p h
theorem pgCells_one (ps : List PageD) : ∀ u ∈ pgCells ps, u.oneCell' = true := by
  intro u hu
  obtain ⟨p, _, hp⟩ := List.mem_flatMap.1 hu
  simp only [PageD.cells, List.mem_cons, List.not_mem_nil, or_false] at hp
  rcases hp with rfl | rfl <;> rfl
theorem infoPage : (Try.prog.info? 51).map (fun i => (i.zero, i.size, i.bytes)) = some (some (.agg #[.int .i64 0, .string ByteArray.empty]), 2, 24) := by kernel_rfl

/-- A row of pages of one's own. -/
def PRow (w : World) (base : Nat) (v : Value) (ps : List PageD) : Prop := w.ownsRow base 51 2 v ps.length (pgCells ps)
theorem PRow.nil (w : World) (base : Nat) : PRow w base (.slice none 0 0) [] := World.ownsRow_nil _ _ _ _
theorem PRow.keeps {H : Nat → Prop} {w w' : World} {base : Nat} {v : Value} {ps : List PageD} (h : PRow w base v ps) (k : Keeps H w w') (hv : ∀ j, v.ownBlock = some j → ¬ H j) : PRow w' base v ps := by
  refine ⟨h.1, ?_⟩
  rcases h.2 with hn | ⟨g, cap, cur, rfl, hg, hgg, rest⟩
  · exact .inl hn
  · exact .inr ⟨g, cap, cur, rfl, hg, (k.block g (Array.getElem?_eq_some_iff.1 hgg).1 (hv g rfl)).trans hgg, rest⟩
theorem PRow.below {w w' : World} {base : Nat} {v : Value} {ps : List PageD} (h : PRow w base v ps) (k : Below w.heap.size w w') : PRow w' base v ps := h.keeps (Keeps.of_below (F := fun _ => False) k) (fun _ _ h => h)
theorem PRow.blk {w : World} {base : Nat} {v : Value} {ps : List PageD} (h : PRow w base v ps) : ∀ k, v.ownBlock = some k → base ≤ k ∧ k < w.heap.size := by
  unfold PRow at h
  exact fun k hk => h.lt k hk
theorem PRow.len {w : World} {base : Nat} {v : Value} {ps : List PageD} (h : PRow w base v ps) : ∃ a c, v = .slice a ps.length c := by
  rcases h.2 with ⟨h1, h2⟩ | ⟨g, cap, cur, rfl, _⟩
  · exact ⟨none, 0, by rw [h1, h2]⟩
  · exact ⟨_, _, rfl⟩
theorem PRow.form {w : World} {base : Nat} {a : Option Addr} {n c : Nat} {ps : List PageD} (h : PRow w base (.slice a n c) ps) (h0 : 0 < ps.length) : n = ps.length ∧ ∃ g, a = some ⟨g, 0, none⟩ := by
  rcases h.2 with ⟨_, hl⟩ | ⟨g, cap, cur, e, hg, hgg, rest⟩
  · omega
  · cases e
    exact ⟨rfl, g, rfl⟩
theorem PRow.cell {w : World} {base g n c : Nat} {ps : List PageD} (h : PRow w base (.slice (some ⟨g, 0, none⟩) n c) ps) (i : Nat) (p : PageD) (hp : ps[i]? = some p) :
    w.cell? ⟨g, i * 2, none⟩ = some (.int .i64 (p.1 : Int)) ∧ w.cell? ⟨g, i * 2 + 1, none⟩ = some (.string (strB p.2)) := by
  have hi := (List.getElem?_eq_some_iff.1 hp).1
  obtain ⟨e, _⟩ := h.form (by omega)
  subst e
  obtain ⟨h1, h2⟩ := pgCells_at ps i p hp
  unfold PRow at h
  have k1 := h.cells (g := g) rfl _ _ h1
  have k2 := h.cells (g := g) rfl _ _ h2
  rw [Addr.add_lit, Nat.zero_add] at k1 k2
  exact ⟨k1, k2⟩
theorem PRow.base {w : World} {b b' : Nat} {v : Value} {ps : List PageD} (h : PRow w b v ps) (hb : b' ≤ b) : PRow w b' v ps := ownsRow_base h hb

/-! append. -/
section
variable (w : World)
theorem run_append_pages (base : Nat) (v : Value) (xs : List PageD) (hown : PRow w base v xs) (b2 : Nat) (vs : Value) (zs : List PageD) (hr : PRow w b2 vs zs) (hl : xs.length + zs.length ≤ 100000) (hbase : base ≤ w.heap.size) (ty : TypeId) (hty : ty = 47) :
    ∃ v' w', (Builtin.append_ #[47, 47] ty #[v, vs]).run Try.prog w = .ok v' w' ∧ PRow w' base v' (xs ++ zs) ∧ Appd w w' v v' := by
  subst hty
  obtain ⟨i0, hi, hz0, hz1, hz2⟩ := info_parts infoPage
  have hown0 := hown
  unfold PRow at hown
  rcases hr.2 with ⟨rfl, h0⟩ | ⟨b, cap, cur, rfl, hb, hbb, hc, _⟩
  · obtain rfl : zs = [] := List.length_eq_zero_iff.1 h0
    refine ⟨v, w, ?_, by simpa using hown0, Appd.refl _ _⟩
    rcases hown.2 with ⟨rfl, h0⟩ | ⟨g, cap, cur, rfl, _, _, hnc, _⟩
    · simp [Builtin.append_, run_underlying Try.underlying47, sizeOf, typeInfo, hi, Builtin.lenOf, Builtin.firstCells, h0]
    · simp [Builtin.append_, run_underlying Try.underlying47, sizeOf, typeInfo, hi, Builtin.lenOf, Builtin.firstCells, hnc, storeCells]
  · have hcells : ∀ j u, (pgCells zs)[j]? = some u → w.cell? ((⟨b, 0, none⟩ : Addr).add j) = some u := by
      intro j u hj
      unfold PRow at hr
      exact hr.cells (g := b) rfl j u hj
    obtain ⟨v', w', hrun, h2, h3, _, h5⟩ := run_append_own_at (P := Try.prog) w base 47 47 51 i0 (.agg #[.int .i64 0, .string ByteArray.empty]) 2 24 Try.underlying47 hi hz0 hz1 hz2 rfl (by decide) v xs.length (pgCells xs) hown
      ⟨b, 0, none⟩ zs.length cap (pgCells zs) (pgCells_length zs) hcells (pgCells_one zs) (by unfold maxLen; omega) (by omega) hbase
    refine ⟨v', w', hrun, ?_, appd_at h3 h5⟩
    unfold PRow
    rw [List.length_append, pgCells_append]
    exact h2
/-- append([]Page{}, l...). -/
theorem wpList_copy_pages {ops : Array Oper} {rest : List Oper} {o : Oper} {a : Act} {Q : Exit → Act → World → Prop} (hgd : o.guard = none) (s x : Operand)
    (ho : o.op = .call { callee := .builtin .append, args := #[s, x], argTypes := #[47, 47] }) (hty : o.type = 47)
    (hs : a.eval s = .slice (some ⟨w.heap.size, 0, none⟩) 0 0) (b2 : Nat) (vs : Value) (zs : List PageD) (hx : a.eval x = vs) (hr : PRow w b2 vs zs) (hl : zs.length ≤ 100000)
    (h : ∀ a' c' w', PRow w' w.heap.size (.slice a' zs.length c') zs → Below w.heap.size w w' → wpList Try.prog ops Q rest (a.put o.dst (.slice a' zs.length c')) w') :
    wpList Try.prog ops Q (o :: rest) a (w.alloc (.cells #[] 51)) := by
  obtain ⟨v', w', hrun, h2, h3⟩ := run_append_pages (w.alloc (.cells #[] 51)) w.heap.size (.slice (some ⟨w.heap.size, 0, none⟩) 0 0) [] (World.ownsRow_made w #[] 0 (Nat.le_refl _) (Nat.zero_le _) rfl) b2 vs zs (hr.below (below_any w _)) (by simpa using hl) (by simp) o.type hty
  rw [List.nil_append] at h2
  obtain ⟨a', c', rfl⟩ := h2.len
  refine wpList_plain hgd fun _ hK => ?_
  unfold Oper.wp execOp
  simp only [ho, resolve, invoke, builtin, Sem.run_bind, Sem.run_pure, Result.andThen_ok, List.map_toArray, List.map_cons, List.map_nil, hs, hx, hrun]
  exact hK _ _ (h a' c' w' h2 ((below_any w _).trans (h3.keeps.below (by simp) (fun j hj e => by
    have e : w.heap.size = j := by simpa [Value.ownBlock] using e
    omega))))
end
/-- A page behind a row of pages. -/
theorem wpList_append_page {ops : Array Oper} {rest : List Oper} {o : Oper} {a : Act} {Q : Exit → Act → World → Prop} (hgd : o.guard = none) (s x : Operand)
    (ho : o.op = .call { callee := .builtin .append, args := #[s, x], argTypes := #[47, 47] }) (w : World) (base : Nat) (v : Value) (ps : List PageD) (p : PageD) (hs : a.eval s = v) (hrow : PRow w base v ps) (hbase : base ≤ w.heap.size)
    (hx : a.eval x = .slice (some ⟨w.heap.size, 0, none⟩) 1 1) (hl : ps.length ≤ 100000)
    (h : ∀ g c w', PRow w' base (.slice (some ⟨g, 0, none⟩) (ps.length + 1) c) (ps ++ [p]) → Appd w w' v (.slice (some ⟨g, 0, none⟩) (ps.length + 1) c) → wpList Try.prog ops Q rest (a.put o.dst (.slice (some ⟨g, 0, none⟩) (ps.length + 1) c)) w') :
    wpList Try.prog ops Q (o :: rest) a (w.alloc (.cells #[.int .i64 (p.1 : Int), .string (strB p.2)] 51)) := by
  obtain ⟨i0, hi, hz0, hz1, hz2⟩ := info_parts infoPage
  have hB : Below w.heap.size w (w.alloc (.cells #[.int .i64 (p.1 : Int), .string (strB p.2)] 51)) := below_any _ _
  refine wpList_append_lies _ hgd s x 47 ho base 51 i0 (.agg #[.int .i64 0, .string ByteArray.empty]) 2 24 Try.underlying47 hi hz0 hz1 hz2 rfl (by decide) v ps.length (pgCells ps) hs (hrow.below hB) ⟨w.heap.size, 0, none⟩ 1 1 p.cells hx rfl ?_ (fun u hu => pgCells_one [p] u (by simpa [pgCells] using hu)) (by decide) (by unfold maxLen; omega) (by omega) (by simp; omega) (w.heap.size + 1) (by simp) ?_
  · intro j u hj
    rw [Addr.add_lit, Nat.zero_add, World.cell?_alloc_at _ _ _ _ rfl]
    simpa [PageD.cells] using hj
  · intro g c w' hown hgrow hg hlt
    refine h g c w' ?_ (Appd.grown hB hgrow ?_)
    · unfold PRow
      rw [List.length_append, pgCells_append, show pgCells [p] = p.cells by simp [pgCells]]
      exact hown
    · rcases hg with hg | hg
      · exact .inl (by rw [hg]; rfl)
      · exact .inr ⟨g, rfl, by omega⟩

/-! at. -/
def atF : List PageD → Int → Int → Int
  | [], _, _ => -1
  | p :: ps, x, k => if (p.1 : Int) = x then k else atF ps x (k + 1)
theorem atF_no : ∀ (ps : List PageD) (x k : Int), (∀ p ∈ ps, (p.1 : Int) ≠ x) → atF ps x k = -1
  | [], _, _, _ => rfl
  | p :: ps, x, k, h => by
    unfold atF
    rw [if_neg (h p (List.mem_cons_self ..))]
    exact atF_no ps x (k + 1) (fun q hq => h q (List.mem_cons_of_mem _ hq))
theorem atF_yes : ∀ (ps : List PageD) (x k : Int) (p : PageD), p ∈ ps → (p.1 : Int) = x → ∃ (j : Nat) (q : PageD), atF ps x k = k + j ∧ ps[j]? = some q ∧ (q.1 : Int) = x
  | [], _, _, _, h, _ => by cases h
  | q :: ps, x, k, p, h, e => by
    unfold atF
    by_cases hq : (q.1 : Int) = x
    · rw [if_pos hq]
      exact ⟨0, q, by omega, rfl, hq⟩
    · rw [if_neg hq]
      rcases List.mem_cons.1 h with h | h
      · subst h; exact absurd e hq
      · obtain ⟨j, r, h1, h2, h3⟩ := atF_yes ps x (k + 1) p h e
        exact ⟨j + 1, r, by rw [h1]; omega, by rw [List.getElem?_cons_succ]; exact h2, h3⟩
set_option maxHeartbeats 1600000 in
set_option maxRecDepth 100000 in
theorem law3_at {w : World} {base : Nat} {v : Value} {ps : List PageD} (h : PRow w base v ps) (hl : ps.length ≤ 100000) (x : Int) (hw : (Lit.int .i64 x).wf = true) :
    Calls Try.prog 28 #[v, .int .i64 x] w (fun e w' => e = .returned (.int .i64 (atF ps x 0)) ∧ w = w') := by
  obtain ⟨a, c, rfl⟩ := h.len
  have H := Lib.hid (And.intro h hl)
  have hlb : (ps.length : Int) ≤ 100000 := by omega
  clear h hl
  go_enter Try.func28, Try.ntmps28
  go_upto_region 2 with (fail)
  go_loopg [5] ps.length (fun g s5 wr => ∃ k : Nat, k + g = ps.length ∧ s5 = .int .i64 k ∧ w = wr ∧ atF ps x 0 = atF (ps.drop k) x k)
  case atStart => exact ⟨0, by omega, rfl, rfl, rfl⟩
  case round =>
    obtain ⟨k, hkg, rfl, rfl, hA⟩ := hrel
    have HA := Lib.hid (And.intro hA hkg)
    cases gk with
    | zero =>
      have hk : ¬ (k : Int) < (ps.length : Int) := by omega
      have e : atF ps x 0 = -1 := by rw [hA, List.drop_of_length_le (by omega)]; rfl
      clear hkg hA
      go_wp2
      go_ret
      exact ⟨rfl, rfl⟩
    | succ g =>
      have hk : (k : Int) < (ps.length : Int) := by omega
      have hkn : k < ps.length := by omega
      obtain ⟨p, hp⟩ : ∃ p, ps[k]? = some p := ⟨_, List.getElem?_eq_getElem hkn⟩
      have hd : ps.drop k = p :: ps.drop (k + 1) := by
        obtain ⟨h1, h2⟩ := List.getElem?_eq_some_iff.1 hp
        rw [List.drop_eq_getElem_cons h1, h2]
      rw [hd] at hA
      have hA2 : atF ps x 0 = if (p.1 : Int) = x then (k : Int) else atF (ps.drop (k + 1)) x ((k : Int) + 1) := hA
      have HD := Lib.hid hA2
      clear hA2
      obtain ⟨_, g0, rfl⟩ := H.out.1.form (by omega)
      obtain ⟨kc, _⟩ := H.out.1.cell k p hp
      clear hkg hA hd hp
      by_cases hx : (p.1 : Int) = x
      · go_wp2
        go_ret
        exact ⟨by rw [HD.out, if_pos hx]; rfl, rfl⟩
      · go_wp2
        go_roundg g
        case measure => omega
        case rel => exact ⟨k + 1, by have := HA.out.2; omega, by simp, rfl, by rw [HD.out, if_neg hx]; rfl⟩
end Go.Proofs.Ytjbomdhlfjcgmaa
