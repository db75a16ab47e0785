/-
  The laws PagerPlays, PagerCrashes: a plain map beside a pager.
-/
import Derived.Test.YtjbomdhlfjcgmaaPgPb
import Derived.Test.YtjbomdhlfjcgmaaOpenC
namespace Go.Proofs.Ytjbomdhlfjcgmaa
set_option linter.unusedSimpArgs false
set_option linter.unusedVariables false
open Go.RowKit

/-! Plain: a list of all pages. -/
structure PMap (f : Nat → Option (List UInt8)) (ps : List PageD) : Prop where
  nodup : (ps.map (·.1)).Nodup
  mem : ∀ n zs, f n = some zs ↔ (n, zs) ∈ ps
theorem PMap.nil {f : Nat → Option (List UInt8)} (h : ∀ n, f n = none) : PMap f [] := ⟨List.nodup_nil, fun n zs => by rw [h]; simp⟩
theorem PMap.congr {f g : Nat → Option (List UInt8)} {ps : List PageD} (h : PMap f ps) (e : ∀ n, g n = f n) : PMap g ps := ⟨h.nodup, fun n zs => by rw [e]; exact h.mem n zs⟩
theorem PMap.key {f : Nat → Option (List UInt8)} {ps : List PageD} (h : PMap f ps) {n : Nat} : f n ≠ none ↔ n ∈ ps.map (·.1) := by
  constructor
  · intro hn
    obtain ⟨zs, hz⟩ := Option.ne_none_iff_exists'.1 hn
    exact List.mem_map.2 ⟨_, (h.mem n zs).1 hz, rfl⟩
  · intro hn
    obtain ⟨⟨m, zs⟩, hp, rfl⟩ := List.mem_map.1 hn
    rw [(h.mem m zs).2 hp]
    simp
theorem PMap.more {f f' : Nat → Option (List UInt8)} {ps : List PageD} (h : PMap f ps) {n : Nat} {zs : List UInt8} (h1 : f n = none) (h2 : ∀ k, f' k = if k = n then some zs else f k) : PMap f' (ps ++ [(n, zs)]) := by
  refine ⟨?_, fun k ys => ?_⟩
  · rw [List.map_append, List.nodup_append]
    refine ⟨h.nodup, by simp, fun a ha b hb e => ?_⟩
    subst e
    have hb : a = n := by simpa using hb
    subst hb
    exact h.key.2 ha h1
  · rw [h2, List.mem_append, List.mem_singleton]
    by_cases e : k = n
    · subst e
      rw [if_pos rfl]
      constructor
      · intro e2; cases e2; exact .inr rfl
      · rintro (h3 | h3)
        · rw [(h.mem _ _).2 h3] at h1; cases h1
        · cases h3; rfl
    · rw [if_neg e, h.mem]
      constructor
      · exact .inl
      · rintro (h3 | h3)
        · exact h3
        · cases h3; exact absurd rfl e
theorem PMap.wo {f f' : Nat → Option (List UInt8)} {ps : List PageD} (h : PMap f ps) {n : Nat} (h2 : ∀ k, f' k = if k = n then none else f k) : PMap f' (woP ps (n : Int)) := by
  refine ⟨h.nodup.sublist ((List.filter_sublist).map _), fun k ys => ?_⟩
  unfold woP
  rw [h2, List.mem_filter]
  by_cases e : k = n
  · subst e; simp
  · rw [if_neg e, h.mem]
    have e2 : ¬ (k : Int) = (n : Int) := by omega
    simp [e2]
theorem PMap.wo_no {f : Nat → Option (List UInt8)} {ps : List PageD} (h : PMap f ps) {x : Int} (hx : 0 ≤ x → f x.toNat = none) : woP ps x = ps := by
  unfold woP
  rw [List.filter_eq_self]
  intro p hp
  have hm := (h.mem p.1 p.2).2 hp
  have : (p.1 : Int) ≠ x := fun e => by
    have := hx (by omega)
    rw [← e, Int.toNat_natCast, hm] at this
    cases this
  simpa using this
theorem PMap.at_no {f : Nat → Option (List UInt8)} {ps : List PageD} (h : PMap f ps) {x : Int} (hx : 0 ≤ x → f x.toNat = none) : atF ps x 0 = -1 :=
  atF_no ps x 0 (fun p hp e => by
    have hm := (h.mem p.1 p.2).2 hp
    have := hx (by omega)
    rw [← e, Int.toNat_natCast, hm] at this
    cases this)
theorem PMap.at_yes {f : Nat → Option (List UInt8)} {ps : List PageD} (h : PMap f ps) {n : Nat} {zs : List UInt8} (hn : f n = some zs) : ∃ j : Nat, atF ps (n : Int) 0 = (j : Int) ∧ ps[j]? = some (n, zs) := by
  obtain ⟨j, q, h1, h2, h3⟩ := atF_yes ps (n : Int) 0 (n, zs) ((h.mem n zs).1 hn) rfl
  have e : q.1 = n := by omega
  have h4 := (h.mem q.1 q.2).2 (List.mem_of_getElem? h2)
  rw [e, hn] at h4
  cases h4
  exact ⟨j, by rw [h1]; omega, by rw [h2, ← e]⟩
theorem PMap.at_neg {f : Nat → Option (List UInt8)} {ps : List PageD} (h : PMap f ps) (n : Nat) : atF ps (n : Int) 0 < 0 ↔ f n = none := by
  constructor
  · intro ha
    cases hf : f n with
    | none => rfl
    | some zs =>
      obtain ⟨j, hj, _⟩ := h.at_yes hf
      omega
  · intro hn
    rw [h.at_no (x := (n : Int)) (fun _ => by rw [Int.toNat_natCast]; exact hn)]
    decide
/-- The pages of a list that another one has not. -/
def newP (ps qs : List PageD) : List PageD := ps.filter (fun p => decide (atF qs (p.1 : Int) 0 < 0))
theorem newP_take_yes {ps qs : List PageD} {k : Nat} {p : PageD} (hp : ps[k]? = some p) (hx : atF qs (p.1 : Int) 0 < 0) : (newP (ps.take (k + 1)) qs).length = (newP (ps.take k) qs).length + 1 := by
  rw [List.take_add_one, hp]
  unfold newP
  rw [List.filter_append]
  simp [hx]
theorem newP_take_no {ps qs : List PageD} {k : Nat} {p : PageD} (hp : ps[k]? = some p) (hx : ¬ atF qs (p.1 : Int) 0 < 0) : (newP (ps.take (k + 1)) qs).length = (newP (ps.take k) qs).length := by
  rw [List.take_add_one, hp]
  unfold newP
  rw [List.filter_append]
  simp [hx]
theorem newP_le (ps qs : List PageD) : (newP ps qs).length ≤ ps.length := List.length_filter_le _ _
theorem PMap.len {f : Nat → Option (List UInt8)} {ps : List PageD} (h : PMap f ps) (b : Nat) (hb : ∀ n, f n ≠ none → n < b) : ps.length = cnt (fun k => (f k).isSome) b := by
  have := ks_len f b (ps.map fun p : PageD => (p.1 : Int)) (by
    have h2 := h.nodup
    rw [show (ps.map fun p : PageD => (p.1 : Int)) = (ps.map (·.1)).map (fun n : Nat => (n : Int)) by rw [List.map_map]; rfl]
    exact List.Pairwise.map _ (fun a b hne e => hne (by omega)) h2) (fun x => by
    constructor
    · intro hx
      obtain ⟨p, hp, rfl⟩ := List.mem_map.1 hx
      have hm := (h.mem p.1 p.2).2 hp
      exact ⟨p.1, rfl, hb p.1 (by rw [hm]; simp), by rw [hm]; rfl⟩
    · rintro ⟨k, rfl, _, hk⟩
      obtain ⟨zs, hz⟩ := Option.isSome_iff_exists.1 hk
      exact List.mem_map.2 ⟨(k, zs), (h.mem k zs).1 hz, rfl⟩)
  rw [List.length_map] at this
  exact this
/-- What there is room for. -/
theorem left_both {D : DiskS} {S : PgS} {C : Comm} {ps qs : List PageD} (hi : PgInv D S C) (ma : PMap (nowP S C) ps) (md : PMap C.pages qs) : S.left = (D.blocks : Int) - firstN D.blocks - qs.length - (newP ps qs).length := by
  have h1 := md.len D.blocks (fun n hn => (hi.ok.first (n := n) (by cases hp : C.pages n with | none => exact absurd hp hn | some b => unfold Comm.has; rw [hp]; rfl)).2)
  have hfr : PMap S.fresh (newP ps qs) := by
    refine ⟨ma.nodup.sublist ((List.filter_sublist).map _), fun n zs => ?_⟩
    unfold newP
    rw [List.mem_filter]
    constructor
    · intro hf
      have hn : nowP S C n = some zs := by unfold nowP; rw [hf]
      refine ⟨(ma.mem n zs).1 hn, ?_⟩
      rcases now_has hi hn with ⟨_, _, _, h4⟩ | ⟨h5, _⟩
      · simpa using (md.at_neg n).2 h4
      · rw [hf] at h5; cases h5
    · rintro ⟨hm, hx⟩
      have hn := (ma.mem n zs).2 hm
      have hx := (md.at_neg n).1 (by simpa using hx)
      rcases now_has hi hn with ⟨h4, _⟩ | ⟨_, _, _, h5⟩
      · exact h4
      · rw [hx] at h5; cases h5
  have h2 := hfr.len S.blocks (fun n hn => by
    obtain ⟨zs, hz⟩ := Option.ne_none_iff_exists'.1 hn
    exact (hi.wf.fresh n zs hz).2.1)
  rw [hi.left_eq, ← h2]
  have e : cnt C.has D.blocks = cnt (fun k => (C.pages k).isSome) D.blocks := rfl
  rw [e, ← h1]

/-! Two lists of pages beside a pager. -/
theorem far_turn {F G F' G' : Nat → Prop} {w w' : World} {v : Value} (hf : ∀ k, v.ownBlock = some k → ¬ F k ∧ ¬ G k) (hl : ∀ k, v.ownBlock = some k → k < w.heap.size) (hm : Moves (fun k => F k ∨ G k) (fun k => F' k ∨ G' k) w w') : ∀ k, v.ownBlock = some k → ¬ F' k ∧ ¬ G' k := fun k hk => by
  have hlt := hl k hk
  have hn : ¬ (F' k ∨ G' k) := fun hf' => by
    rcases hm.new k hf' with h | h
    · rcases h with h | h
      · exact (hf k hk).1 h
      · exact (hf k hk).2 h
    · omega
  exact ⟨fun h => hn (.inl h), fun h => hn (.inr h)⟩
structure Pl2 (w0 w : World) (pb db : Nat) (F G : Nat → Prop) (D : DiskS) (S : PgS) (C : Comm) (va : Value) (ps : List PageD) (vd : Value) (qs : List PageD) : Prop where
  up : UpB w0 w pb db F G D S C
  ra : PRow w w0.heap.size va ps
  fa : ∀ k, va.ownBlock = some k → ¬ F k ∧ ¬ G k
  rd : PRow w w0.heap.size vd qs
  fd : ∀ k, vd.ownBlock = some k → ¬ F k ∧ ¬ G k
  dis : ∀ k, va.ownBlock = some k → vd.ownBlock ≠ some k
section
variable {w0 w w' : World} {pb db : Nat} {F G F' G' : Nat → Prop} {D D' : DiskS} {S S' : PgS} {C C' : Comm} {va vd v : Value} {ps qs rs : List PageD}
theorem Pl2.turn (h : Pl2 w0 w pb db F G D S C va ps vd qs) {pb' : Nat} (hu : UpB w0 w' pb' db F' G' D' S' C') (hm : Moves (fun k => F k ∨ G k) (fun k => F' k ∨ G' k) w w') : Pl2 w0 w' pb' db F' G' D' S' C' va ps vd qs := by
  have hn : ∀ {v : Value}, (∀ k, v.ownBlock = some k → ¬ F k ∧ ¬ G k) → ∀ j, v.ownBlock = some j → ¬ (F j ∨ G j) := fun hv j hj hf => by
    rcases hf with hf | hf
    · exact (hv j hj).1 hf
    · exact (hv j hj).2 hf
  exact ⟨hu, h.ra.keeps hm.keeps (hn h.fa), far_turn h.fa (fun k hk => (h.ra.blk k hk).2) hm, h.rd.keeps hm.keeps (hn h.fd), far_turn h.fd (fun k hk => (h.rd.blk k hk).2) hm, h.dis⟩
theorem Pl2.below (h : Pl2 w0 w pb db F G D S C va ps vd qs) (k : Below w.heap.size w w') : Pl2 w0 w' pb db F G D S C va ps vd qs := ⟨h.up.below k, h.ra.below k, h.fa, h.rd.below k, h.fd, h.dis⟩
theorem Pl2.drewN (h : Pl2 w0 w pb db F G D S C va ps vd qs) (n : Nat) : Pl2 w0 (w.drewN n) pb db F G D S C va ps vd qs := ⟨h.up.drewN n, h.ra, h.fa, h.rd, h.fd, h.dis⟩
theorem UpB.far_new (h : UpB w0 w pb db F G D S C) {k : Nat} (hk : w.heap.size ≤ k) : ¬ F k ∧ ¬ G k := ⟨fun hf => by have := h.up.on.pg.lim k hf; omega, fun hf => by have := h.up.on.dk.lim k hf; omega⟩
/-- A page more in the first list. -/
theorem Pl2.more (h : Pl2 w0 w pb db F G D S C va ps vd qs) (hr : PRow w' w0.heap.size v rs) (ha : Appd w w' va v) : Pl2 w0 w' pb db F G D S C v rs vd qs := by
  have hu : UpB w0 w' pb db F G D S C := h.up.other ha.keeps (fun k hk => ⟨(h.ra.blk k hk).1, h.fa k hk⟩)
  refine ⟨hu, hr, fun k hk => ?_, h.rd.keeps ha.keeps (fun j hj e => h.dis j e hj), h.fd, fun k hk hk2 => ?_⟩
  · rcases ha.new with e | ⟨m, e, hm⟩
    · exact h.fa k (e.symm.trans hk)
    · rw [e] at hk; cases hk; exact h.up.far_new hm
  · rcases ha.new with e | ⟨m, e, hm⟩
    · exact h.dis k (e.symm.trans hk) hk2
    · rw [e] at hk
      cases hk
      have := (h.rd.blk _ hk2).2
      omega
/-- Another first list, in a new block. -/
theorem Pl2.newA (h : Pl2 w0 w pb db F G D S C va ps vd qs) (hr : PRow w' w.heap.size v rs) (k : Below w.heap.size w w') : Pl2 w0 w' pb db F G D S C v rs vd qs :=
  ⟨h.up.below k, hr.base h.up.bel.size, fun k hk => h.up.far_new (hr.blk k hk).1, h.rd.below k, h.fd, fun j hj hj2 => by have := (hr.blk j hj).1; have := (h.rd.blk j hj2).2; omega⟩
theorem Pl2.newD (h : Pl2 w0 w pb db F G D S C va ps vd qs) (hr : PRow w' w.heap.size v rs) (k : Below w.heap.size w w') : Pl2 w0 w' pb db F G D S C va ps v rs :=
  ⟨h.up.below k, h.ra.below k, h.fa, hr.base h.up.bel.size, fun k hk => h.up.far_new (hr.blk k hk).1, fun j hj hj2 => by have := (hr.blk j hj2).1; have := (h.ra.blk j hj).2; omega⟩
end

/-- The call at hand, in a block of its own. -/
structure CAt (w0 w : World) (F G : Nat → Prop) (va vd : Value) (cb : Nat) (q : CallD) : Prop where
  blk : w.heap[cb]? = some (.cells #[.int .i64 q.kd, .int .i64 q.n, q.v] 49 (0, 0))
  lo : w0.heap.size ≤ cb
  far : ¬ F cb ∧ ¬ G cb
  da : va.ownBlock ≠ some cb
  dd : vd.ownBlock ≠ some cb
  ok : CallOk w0 q
  bel : Below w0.heap.size w0 w
section
variable {w0 w w' : World} {F G F' G' : Nat → Prop} {va vd v : Value} {cb : Nat} {q : CallD}
theorem CAt.lt (h : CAt w0 w F G va vd cb q) : cb < w.heap.size := (Array.getElem?_eq_some_iff.1 h.blk).1
theorem CAt.turn (h : CAt w0 w F G va vd cb q) (hm : Moves (fun k => F k ∨ G k) (fun k => F' k ∨ G' k) w w') (hb : Below w0.heap.size w0 w') : CAt w0 w' F' G' va vd cb q := by
  have hn : ¬ (F cb ∨ G cb) := fun hf => by
    rcases hf with hf | hf
    · exact h.far.1 hf
    · exact h.far.2 hf
  refine ⟨(hm.keeps.block cb h.lt hn).trans h.blk, h.lo, ?_, h.da, h.dd, h.ok, hb⟩
  have hn' : ¬ (F' cb ∨ G' cb) := fun hf => by
    rcases hm.new cb hf with h2 | h2
    · exact hn h2
    · have := h.lt; omega
  exact ⟨fun hf => hn' (.inl hf), fun hf => hn' (.inr hf)⟩
theorem CAt.below (h : CAt w0 w F G va vd cb q) (k : Below w.heap.size w w') : CAt w0 w' F G va vd cb q := ⟨(k.block cb h.lt).trans h.blk, h.lo, h.far, h.da, h.dd, h.ok, h.bel.trans (k.mono h.bel.size)⟩
theorem CAt.drewN (h : CAt w0 w F G va vd cb q) (n : Nat) : CAt w0 (w.drewN n) F G va vd cb q := ⟨h.blk, h.lo, h.far, h.da, h.dd, h.ok, below_drewN (B := 0) w n h.bel⟩
theorem CAt.cells (h : CAt w0 w F G va vd cb q) : w.cell? ⟨cb, 0, none⟩ = some (.int .i64 q.kd) ∧ w.cell? ⟨cb, 1, none⟩ = some (.int .i64 q.n) ∧ w.cell? ⟨cb, 2, none⟩ = some q.v := by
  refine ⟨?_, ?_, ?_⟩ <;> (unfold World.cell?; rw [h.blk]; rfl)
theorem CAt.reads (h : CAt w0 w F G va vd cb q) : ReadsZ w q.v q.bs := h.ok.bs.below h.bel
end
end Go.Proofs.Ytjbomdhlfjcgmaa
