/-
  The law PagerFull: what is held in a list.
-/
import Derived.Test.YtjbomdhlfjcgmaaPgU
namespace Go.Proofs.Ytjbomdhlfjcgmaa
set_option linter.unusedSimpArgs false
set_option linter.unusedVariables false
open Go.RowKit

theorem IRow.keeps {H : Nat → Prop} {w w' : World} {base : Nat} {v : Value} {ks : List Int} (h : IRow w base v ks) (k : Keeps H w w') (hv : ∀ j, v.ownBlock = some j → ¬ H j) : IRow w' base v ks := by
  refine ⟨h.1, ?_⟩
  rcases h.2 with hn | ⟨g, cap, cur, rfl, hg, hgg, rest⟩
  · exact .inl hn
  · exact .inr ⟨g, cap, cur, rfl, hg, (k.block g (Array.getElem?_eq_some_iff.1 hgg).1 (hv g rfl)).trans hgg, rest⟩
theorem IRow.blk {w : World} {base : Nat} {v : Value} {ks : List Int} (h : IRow w base v ks) : ∀ k, v.ownBlock = some k → base ≤ k ∧ k < w.heap.size := by
  unfold IRow at h
  exact fun k hk => h.lt k hk
theorem IRow.nil (w : World) (base : Nat) : IRow w base (.slice none 0 0) [] := World.ownsRow_nil _ _ _ _

/-- A number behind a row of numbers. -/
theorem wpList_append_int {ops : Array Oper} {rest : List Oper} {o : Oper} {a : Act} {Q : Exit → Act → World → Prop} (hgd : o.guard = none) (s x : Operand)
    (ho : o.op = .call { callee := .builtin .append, args := #[s, x], argTypes := #[43, 43] }) (w : World) (base : Nat) (v : Value) (ks : List Int) (y : Int) (hs : a.eval s = v) (hrow : IRow w base v ks) (hbase : base ≤ w.heap.size)
    (hx : a.eval x = .slice (some ⟨w.heap.size, 0, none⟩) 1 1) (hl : ks.length ≤ 100000)
    (h : ∀ g c w', IRow w' base (.slice (some ⟨g, 0, none⟩) (ks.length + 1) c) (ks ++ [y]) → Appd w w' v (.slice (some ⟨g, 0, none⟩) (ks.length + 1) c) → wpList Try.prog ops Q rest (a.put o.dst (.slice (some ⟨g, 0, none⟩) (ks.length + 1) c)) w') :
    wpList Try.prog ops Q (o :: rest) a (w.alloc (.cells #[.int .i64 y] 3)) := by
  obtain ⟨i0, hi, hz0, hz1, hz2⟩ := info_parts infoInt
  have hB : Below w.heap.size w (w.alloc (.cells #[.int .i64 y] 3)) := below_any _ _
  refine wpList_append_lies _ hgd s x 43 ho base 3 i0 (.int .i64 0) 1 8 Try.underlying43 hi hz0 hz1 hz2 rfl (by decide) v ks.length (ks.map (Value.int .i64)) hs ?_ ⟨w.heap.size, 0, none⟩ 1 1 [.int .i64 y] hx rfl (int_new _ _ _) (ints_one [y]) (by decide) (by unfold maxLen; omega) (by omega) (by simp; omega) (w.heap.size + 1) (by simp) ?_
  · exact hrow.keeps (Keeps.of_below (F := fun _ => False) hB) (fun j _ h => h)
  · intro g c w' hown hgrow hg hlt
    refine h g c w' ?_ (Appd.grown hB hgrow ?_)
    · unfold IRow
      simp only [List.length_append, List.length_singleton, List.map_append, List.map_singleton]
      exact hown
    · rcases hg with hg | hg
      · exact .inl (by rw [hg]; rfl)
      · exact .inr ⟨g, rfl, by omega⟩

/-- A list of all pages beside a pager. -/
structure HoldAt (w0 w : World) (pb db : Nat) (F G : Nat → Prop) (D : DiskS) (S : PgS) (C : Comm) (v : Value) (ns : List Nat) : Prop where
  up : UpB w0 w pb db F G D S C
  row : IRow w w0.heap.size v (ns.map fun n : Nat => (n : Int))
  far : ∀ k, v.ownBlock = some k → ¬ F k ∧ ¬ G k
/-- The pager turned, in blocks of its own. -/
theorem HoldAt.turn {w0 w w' : World} {pb db : Nat} {F G F' G' : Nat → Prop} {D D' : DiskS} {S S' : PgS} {C C' : Comm} {v : Value} {ns : List Nat} (h : HoldAt w0 w pb db F G D S C v ns) (hu : UpB w0 w' pb db F' G' D' S' C') (hm : Moves (fun k => F k ∨ G k) (fun k => F' k ∨ G' k) w w') : HoldAt w0 w' pb db F' G' D' S' C' v ns := by
  refine ⟨hu, h.row.keeps hm.keeps (fun j hj hf => ?_), fun k hk => ?_⟩
  · rcases hf with hf | hf
    · exact (h.far j hj).1 hf
    · exact (h.far j hj).2 hf
  · have hlt := (h.row.blk k hk).2
    have hn : ¬ (F' k ∨ G' k) := fun hf => by
      rcases hm.new k hf with hf | hf
      · rcases hf with hf | hf
        · exact (h.far k hk).1 hf
        · exact (h.far k hk).2 hf
      · omega
    exact ⟨fun hf => hn (.inl hf), fun hf => hn (.inr hf)⟩
theorem Moves.left {F F' G : Nat → Prop} {w w' : World} (h : Moves F F' w w') : Moves (fun k => F k ∨ G k) (fun k => F' k ∨ G k) w w' :=
  ⟨h.keeps.mono (fun _ _ h => .inl h), fun k hk => hk.imp (h.up k) id, fun k hk => by
    rcases hk with hk | hk
    · rcases h.new k hk with hk | hk
      · exact .inl (.inl hk)
      · exact .inr hk
    · exact .inl (.inr hk)⟩
theorem HoldAt.below {w0 w w' : World} {pb db : Nat} {F G : Nat → Prop} {D : DiskS} {S : PgS} {C : Comm} {v : Value} {ns : List Nat} (h : HoldAt w0 w pb db F G D S C v ns) (k : Below w.heap.size w w') : HoldAt w0 w' pb db F G D S C v ns :=
  ⟨h.up.below k, h.row.keeps (Keeps.of_below (F := fun _ => False) k) (fun j _ h => h), h.far⟩
theorem HoldAt.drewN {w0 w : World} {pb db : Nat} {F G : Nat → Prop} {D : DiskS} {S : PgS} {C : Comm} {v : Value} {ns : List Nat} (h : HoldAt w0 w pb db F G D S C v ns) (n : Nat) : HoldAt w0 (w.drewN n) pb db F G D S C v ns := ⟨h.up.drewN n, h.row, h.far⟩
/-- A number more. -/
theorem HoldAt.more {w0 w w' : World} {pb db : Nat} {F G : Nat → Prop} {D : DiskS} {S : PgS} {C : Comm} {v v' : Value} {ns : List Nat} (h : HoldAt w0 w pb db F G D S C v ns) (n : Nat) (hr : IRow w' w0.heap.size v' ((ns.map fun n : Nat => (n : Int)) ++ [(n : Int)])) (ha : Appd w w' v v') : HoldAt w0 w' pb db F G D S C v' (ns ++ [n]) := by
  have hd : ∀ k, F k ∨ G k → ¬ v.ownBlock = some k := fun k hk e => by
    rcases hk with hk | hk
    · exact (h.far k e).1 hk
    · exact (h.far k e).2 hk
  refine ⟨⟨⟨⟨h.up.up.on.dk.keeps ha.keeps (fun k hk => hd k (.inr hk)), h.up.up.on.pg.keeps ha.keeps (fun k hk => hd k (.inl hk)), h.up.up.on.bl, h.up.up.on.dis⟩, h.up.up.inv⟩, Keeps.below_new h.up.bel ha.keeps (fun j hj => (h.row.blk j hj).1), h.up.own, h.up.alive, h.up.free⟩, by simpa using hr, fun k hk => ?_⟩
  rcases ha.new with e | ⟨m, e, hm⟩
  · exact h.far k (e.symm.trans hk)
  · rw [e] at hk
    cases hk
    exact ⟨fun hf => by have := h.up.up.on.pg.lim _ hf; omega, fun hf => by have := h.up.up.on.dk.lim _ hf; omega⟩

/-! Plain: a list of all pages. -/
structure AllMem (S : PgS) (C : Comm) (ns : List Nat) : Prop where
  nodup : ns.Nodup
  mem : ∀ n, nowP S C n ≠ none ↔ n ∈ ns
theorem AllMem.start {D : DiskS} : AllMem (loadS D) Comm.new [] := ⟨List.nodup_nil, fun n => by rw [loadS_now]; simp [Comm.new]⟩
theorem AllMem.more {S S' : PgS} {C : Comm} {ns : List Nat} {n : Nat} {zs : List UInt8} (h : AllMem S C ns) (h1 : nowP S C n = none) (h2 : ∀ k, nowP S' C k = if k = n then some zs else nowP S C k) : AllMem S' C (ns ++ [n]) := by
  refine ⟨?_, fun k => ?_⟩
  · rw [List.nodup_append]
    refine ⟨h.nodup, by simp, fun a ha b hb => ?_⟩
    rw [List.mem_singleton.1 hb]
    intro e
    subst e
    exact (h.mem a).2 ha h1
  · rw [h2, List.mem_append, List.mem_singleton, ← h.mem]
    by_cases e : k = n
    · simp [e]
    · simp [e]
theorem AllMem.done {S : PgS} {C : Comm} {ns : List Nat} (h : AllMem S C ns) (root : List UInt8) : AllMem (S.done root) (commC S C root) ns := ⟨h.nodup, fun n => by rw [done_now]; exact h.mem n⟩
theorem AllMem.free {S S' : PgS} {C : Comm} {ns : List Nat} {n : Nat} (h : AllMem S C (n :: ns)) (h2 : ∀ k, nowP S' C k = if k = n then none else nowP S C k) : AllMem S' C ns := by
  obtain ⟨h3, h4⟩ := List.nodup_cons.1 h.nodup
  refine ⟨h4, fun k => ?_⟩
  rw [h2]
  by_cases e : k = n
  · subst e; simp [h3]
  · rw [if_neg e, h.mem, List.mem_cons]
    simp [e]
theorem AllMem.left {D : DiskS} {S : PgS} {C : Comm} {ns : List Nat} (h : AllMem S C ns) (hi : PgInv D S C) (hf : ∀ n, S.fresh n = none) (hq : ∀ n, S.freed n = false) : S.left = (D.blocks : Int) - firstN D.blocks - ns.length := by
  have hm : ∀ n, (C.pages n).isSome = true ↔ n ∈ ns := fun n => by
    rw [← h.mem, nowP_clean C hf hq]
    cases C.pages n <;> simp
  have hl := ks_len C.pages D.blocks (ns.map fun n : Nat => (n : Int)) (List.Pairwise.map _ (fun a b hne e => hne (by omega)) h.nodup) (fun x => by
    constructor
    · intro hx
      obtain ⟨n, hn, rfl⟩ := List.mem_map.1 hx
      have := (hm n).2 hn
      exact ⟨n, rfl, (hi.ok.first this).2, this⟩
    · rintro ⟨k, rfl, _, hk⟩
      exact List.mem_map.2 ⟨k, (hm k).1 hk, rfl⟩)
  rw [List.length_map] at hl
  rw [hi.left_eq, cnt_none (p := fun k => (S.fresh k).isSome) _ (fun n _ => by rw [hf]; rfl)]
  have e : cnt C.has D.blocks = cnt (fun k => (C.pages k).isSome) D.blocks := rfl
  rw [e, ← hl]
  omega
end Go.Proofs.Ytjbomdhlfjcgmaa
