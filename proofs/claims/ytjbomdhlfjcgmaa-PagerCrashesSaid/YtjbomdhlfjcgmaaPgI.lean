/-
  For the law PagerOwn: rows of bytes of one's own beside a pager.
-/
import Derived.Test.YtjbomdhlfjcgmaaApR
import Derived.Test.YtjbomdhlfjcgmaaPgV
namespace Go.Proofs.Ytjbomdhlfjcgmaa
set_option linter.unusedSimpArgs false
set_option linter.unusedVariables false
open Go.RowKit

theorem Row.keeps {H : Nat → Prop} {w w' : World} {base : Nat} {v : Value} {zs : List UInt8} (h : Row w base v zs) (k : Keeps H w w') (hv : ∀ j, v.ownBlock = some j → ¬ H j) : Row w' base v zs := by
  refine ⟨h.1, ?_⟩
  rcases h.2 with hn | ⟨g, cap, cur, rfl, hg, hgg, rest⟩
  · exact .inl hn
  · exact .inr ⟨g, cap, cur, rfl, hg, (k.block g (Array.getElem?_eq_some_iff.1 hgg).1 (hv g rfl)).trans hgg, rest⟩
theorem Row.form {w : World} {base : Nat} {a : Option Addr} {n c : Nat} {zs : List UInt8} (h : Row w base (.slice a n c) zs) (h0 : 0 < zs.length) : n = zs.length ∧ ∃ g, a = some ⟨g, 0, none⟩ := by
  rcases h.2 with ⟨_, hl⟩ | ⟨g, cap, cur, e, hg, hgg, rest⟩
  · omega
  · cases e
    exact ⟨rfl, g, rfl⟩
theorem Row.cell {w : World} {base g : Nat} {n c : Nat} {zs : List UInt8} (h : Row w base (.slice (some ⟨g, 0, none⟩) n c) zs) (i : Nat) (x : UInt8) (hx : zs[i]? = some x) : w.cell? ⟨g, i, none⟩ = some (.int .u8 x.toNat) ∧ w.frozen? ⟨g, i, none⟩ = false := by
  have hi := (List.getElem?_eq_some_iff.1 hx).1
  obtain ⟨e, _⟩ := h.form (by omega)
  subst e
  constructor
  · unfold Row at h
    have := h.cells (g := g) rfl i (.int .u8 x.toNat) (by simp [bcells, hx])
    rwa [Addr.add_lit, Nat.zero_add] at this
  · exact World.ownsRow.frozenAt h i

/-- A row of one's own beside a pager. -/
structure OwnAt (w0 w : World) (pb db : Nat) (F G : Nat → Prop) (D : DiskS) (S : PgS) (C : Comm) (v : Value) (zs : List UInt8) : Prop where
  up : UpB w0 w pb db F G D S C
  row : Row w w0.heap.size v zs
  far : ∀ k, v.ownBlock = some k → ¬ F k ∧ ¬ G k
theorem OwnAt.turn {w0 w w' : World} {pb db : Nat} {F G F' G' : Nat → Prop} {D D' : DiskS} {S S' : PgS} {C C' : Comm} {v : Value} {zs : List UInt8} (h : OwnAt w0 w pb db F G D S C v zs) (hu : UpB w0 w' pb db F' G' D' S' C') (hm : Moves (fun k => F k ∨ G k) (fun k => F' k ∨ G' k) w w') : OwnAt w0 w' pb db F' G' D' S' C' v zs := by
  refine ⟨hu, h.row.keeps hm.keeps (fun j hj hf => ?_), fun k hk => ?_⟩
  · rcases hf with hf | hf
    · exact (h.far j hj).1 hf
    · exact (h.far j hj).2 hf
  · have hlt := (h.row.blk k hk).2
    have hn : ¬ (F' k ∨ G' k) := fun hf => by
      rcases hm.new k hf with hf | hf
      · rcases hf with hf | hf
        · exact (h.far k hk).1 hf
        · exact (h.far k hk).2 hf
      · omega
    exact ⟨fun hf => hn (.inl hf), fun hf => hn (.inr hf)⟩
theorem OwnAt.below {w0 w w' : World} {pb db : Nat} {F G : Nat → Prop} {D : DiskS} {S : PgS} {C : Comm} {v : Value} {zs : List UInt8} (h : OwnAt w0 w pb db F G D S C v zs) (k : Below w.heap.size w w') : OwnAt w0 w' pb db F G D S C v zs :=
  ⟨h.up.below k, h.row.keeps (Keeps.of_below (F := fun _ => False) k) (fun j _ h => h), h.far⟩
/-- Some other block of one's own is written. -/
theorem UpB.other {w0 w w' : World} {pb db : Nat} {F G H : Nat → Prop} {D : DiskS} {S : PgS} {C : Comm} (h : UpB w0 w pb db F G D S C) (hk : Keeps H w w') (hH : ∀ k, H k → w0.heap.size ≤ k ∧ ¬ F k ∧ ¬ G k) : UpB w0 w' pb db F G D S C :=
  ⟨⟨⟨h.up.on.dk.keeps hk (fun k hg hh => (hH k hh).2.2 hg), h.up.on.pg.keeps hk (fun k hf hh => (hH k hh).2.1 hf), h.up.on.bl, h.up.on.dis⟩, h.up.inv⟩, Keeps.below_new h.bel hk (fun j hj => (hH j hj).1), h.own, h.alive, h.free⟩
theorem keeps_put1 (w : World) (g i : Nat) (u : Value) : Keeps (fun k => k = g) w (w.setCell ⟨g, i, none⟩ u) := (Keeps.refl _ w).setCell _ _ (fun _ => rfl)
theorem OwnAt.set {w0 w : World} {pb db : Nat} {F G : Nat → Prop} {D : DiskS} {S : PgS} {C : Comm} {g n c : Nat} {zs : List UInt8} (h : OwnAt w0 w pb db F G D S C (.slice (some ⟨g, 0, none⟩) n c) zs) (i : Nat) (x : UInt8) (e : Int) (he : e = (x.toNat : Int)) :
    OwnAt w0 (w.setCell ⟨g, i, none⟩ (.int .u8 e)) pb db F G D S C (.slice (some ⟨g, 0, none⟩) n c) (zs.set i x) := by
  have hb := h.row.blk g rfl
  obtain ⟨f1, f2⟩ := h.far g rfl
  refine ⟨h.up.other (keeps_put1 w g i _) (fun k hk => by rw [hk]; exact ⟨hb.1, f1, f2⟩), ?_, h.far⟩
  have hr := h.row
  unfold Row at hr ⊢
  rw [List.length_set]
  rw [show bcells (zs.set i x) = (bcells zs).set i (.int .u8 e) by simp only [bcells, List.map_set, he]]
  have e1 : n = zs.length := by
    rcases hr.2 with ⟨e, _⟩ | ⟨g', cap, cur, e, _⟩
    · cases e
    · cases e; rfl
  subst e1
  exact (World.ownsRow.stored hr i _).1
theorem OwnAt.other {w0 w : World} {pb db : Nat} {F G : Nat → Prop} {D : DiskS} {S : PgS} {C : Comm} {v : Value} {zs : List UInt8} (h : OwnAt w0 w pb db F G D S C v zs) (g i : Nat) (u : Value) (hg : w0.heap.size ≤ g ∧ ¬ F g ∧ ¬ G g) (hv : v.ownBlock ≠ some g) : OwnAt w0 (w.setCell ⟨g, i, none⟩ u) pb db F G D S C v zs :=
  ⟨h.up.other (keeps_put1 w g i _) (fun k hk => by rw [hk]; exact hg), h.row.keeps (keeps_put1 w g i _) (fun j hj e => hv (by rw [← e]; exact hj)), h.far⟩
theorem row_one (w : World) (base : Nat) (x : UInt8) (xi : Int) (hx : xi = (x.toNat : Int)) (hb : base ≤ w.heap.size) : Row (w.alloc (.cells #[.int .u8 xi] 5)) base (.slice (some ⟨w.heap.size, 0, none⟩) 1 1) [x] := by
  subst hx
  exact ⟨rfl, .inr ⟨w.heap.size, 1, #[.int .u8 x.toNat], rfl, hb, heap_alloc_new w _, Nat.le_refl _, by decide, rfl, rfl⟩⟩
theorem byte_of' {b : Int} (h : (Lit.int .u8 b).wf = true) : ∃ x : UInt8, b = (x.toNat : Int) := by
  have hb := bounds_u8 h
  refine ⟨UInt8.ofNat b.toNat, ?_⟩
  rw [UInt8.toNat_ofNat']
  omega
theorem OwnAt.new {w0 w w' : World} {pb db : Nat} {F G : Nat → Prop} {D : DiskS} {S : PgS} {C : Comm} {v : Value} {zs : List UInt8} (h : UpB w0 w pb db F G D S C) (h' : UpB w0 w' pb db F G D S C) (hrow : Row w' w.heap.size v zs) : OwnAt w0 w' pb db F G D S C v zs :=
  ⟨h', ownsRow_base hrow h.bel.size, fun k hk => ⟨fun hf => by have := h.up.on.pg.lim k hf; have := (hrow.blk k hk).1; omega, fun hf => by have := h.up.on.dk.lim k hf; have := (hrow.blk k hk).1; omega⟩⟩
/-- Two rows beside a pager: what was handed in, and the root. -/
def Own2 (w0 wr : World) (pb db n : Nat) (bs : List UInt8) (v : Value) (zm : List UInt8) (rb : Nat) (t : UInt8) : Prop :=
  ∃ F G D S C, OwnAt w0 wr pb db F G D S C v zm ∧ OwnAt w0 wr pb db F G D S C (.slice (some ⟨rb, 0, none⟩) 1 1) [t] ∧ nowP S C n = some bs ∧ C.seq = 0 ∧ v.ownBlock ≠ some rb
/-- What was told, beside a pager that has committed. -/
def Own1 (w0 wr : World) (pb db n : Nat) (bs : List UInt8) (v : Value) (zx : List UInt8) (t : UInt8) : Prop :=
  ∃ F G D S C, OwnAt w0 wr pb db F G D S C v zx ∧ nowP S C n = some bs ∧ S.fresh n = none ∧ C.root = [t]

end Go.Proofs.Ytjbomdhlfjcgmaa
