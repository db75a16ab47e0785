/-
  package pager: load of a dead disk, Open's function.
-/
import Derived.Test.YtjbomdhlfjcgmaaPgO
namespace Go.Proofs.Ytjbomdhlfjcgmaa
set_option linter.unusedSimpArgs false
set_option linter.unusedVariables false
open Go.RowKit

set_option maxHeartbeats 1600000 in
set_option maxRecDepth 100000 in
theorem pg_load_dead {w : World} {pb db : Nat} {G : Nat → Prop} {D : DiskS} (hd : DkAt w db G D) (hdead : D.dead = true) (hG : ¬ G pb) (hp : pb < w.heap.size) (hlo : 64 ≤ D.blocks) (h : LdAt w w pb db 0 (.slice none 0 0) (.slice none 0 0) [] 0) :
    Calls Try.prog 32 #[.pointer (some ⟨pb, 0, none⟩)] w (fun e w' => e = .returned (.int .i64 12) ∧ Ticks pb 11 w w') := by
  obtain ⟨x, c11⟩ := h.c11
  have HR : Hid (Calls Try.prog 38 #[.pointer (some ⟨pb, 0, none⟩), .int .i64 (0 : Nat)] w (RdPgPost w pb [] 12)) := Lib.hid (by
    have := pg_read (F := fun _ => False) hd hp hG h.c0 c11 (h.frz 11) 0 (by omega)
    rwa [if_pos hdead, if_pos hdead] at this)
  clear hd hdead hG hp hlo h c11 x
  go_enter Try.func32, Try.ntmps32
  go_wp2
  go_loopg [3, 4, 5, 6, 12] 1 (fun g s3 s4 s5 s6 s12 wr => g = 1 ∧ s12 = .int .i64 0 ∧ wr = w)
  case atStart => exact ⟨rfl, rfl, rfl⟩
  case round =>
    obtain ⟨hg, rfl, rfl⟩ := hrel
    clear hg
    go_wp2_with (go_at_call 38; go_must (refine HR.out.mono ?_; rintro e w1 ⟨a, c, rfl, hr, hn, hT⟩; have X := Lib.hid hT; clear hr hn hT))
    go_ret
    exact ⟨rfl, X.out⟩

/-- What Open's function leaves. -/
def OpQ (w : World) (pb db eb : Nat) (D : DiskS) (w' : World) : Prop :=
  if D.dead = true then ∃ w1, Ticks pb 11 w w1 ∧ w' = w1.setCell ⟨eb, 0, none⟩ (.int .i64 12)
  else ∃ w1, LoadPost w pb db D (.returned (.int .i64 0)) w1 ∧ w' = w1.setCell ⟨eb, 0, none⟩ (.int .i64 0)

set_option maxHeartbeats 1600000 in
set_option maxRecDepth 100000 in
theorem op_fn {w : World} {pb db cb eb : Nat} {G : Nat → Prop} {D : DiskS} (hd : DkAt w db G D) (hG : ¬ G pb) (hp : pb < w.heap.size) (hlo : 64 ≤ D.blocks) (h : LdAt w w pb db 0 (.slice none 0 0) (.slice none 0 0) [] 0)
    (hs : ∀ s, s < 2 → slotSeq (D.block s) < 9223372036854775808) (hc : w.cell? ⟨cb, 0, none⟩ = some (.pointer (some ⟨pb, 0, none⟩))) (he : w.cell? ⟨eb, 0, none⟩ = some (.int .i64 0)) (hz : w.frozen? ⟨eb, 0, none⟩ = false) (hcp : cb ≠ pb) (hep : eb ≠ pb)
    (h1 : w.cell? ⟨pb, 1, none⟩ = some (.int .u32 0)) (h2 : w.cell? ⟨pb, 2, none⟩ = some (.int .i32 1)) :
    Calls Try.prog 31 #[.pointer (some ⟨cb, 0, none⟩), .pointer (some ⟨eb, 0, none⟩)] w (OnceFn pb 1 (OpQ w pb db eb D)) := by
  have hl : ∀ b o v, w.cell? ⟨b, o, none⟩ = some v → b < w.heap.size := fun b o v h => World.block_lt_of_cell? w _ h
  have hE := hl eb 0 _ he
  cases hdd : D.dead with
  | true =>
    have HL := Lib.hid (pg_load_dead hd hdd hG hp hlo h)
    have HX := Lib.hid (And.intro h (And.intro hE (And.intro hep (And.intro hp (And.intro h1 (And.intro h2 (And.intro he (And.intro hz hdd))))))))
    clear hd hG hlo h hs hl hE hp h1 h2 hcp hdd
    go_enter Try.func31, Try.ntmps31
    go_wp2_with (go_at_call 32; go_must (refine HL.out.mono ?_; rintro e w1 ⟨rfl, hT⟩; have X := Lib.hid hT; have k1 := (hT.keeps.cell (a := ⟨eb, 0, none⟩) HX.out.2.1 hep).trans he; have z1 := (hT.keeps.frozen (a := ⟨eb, 0, none⟩) HX.out.2.1 hep).trans hz; clear hT))
    go_end0
    have hne : ∀ o, (⟨eb, 0, none⟩ : Addr) ≠ ⟨pb, o, none⟩ := fun o e => HX.out.2.2.1 (by cases e; rfl)
    have z : ∀ o, (w1.setCell ⟨eb, 0, none⟩ (.int .i64 12)).frozen? ⟨pb, o, none⟩ = false := fun o => by
      rw [World.frozen?_setCell, X.out.frz]
      exact HX.out.1.frz o
    refine ⟨rfl, ?_, ?_, z 1, z 2, ?_⟩
    · rw [cell_set_ne (hne 1), X.out.row 1 (by omega)]; exact HX.out.2.2.2.2.1
    · show (w1.setCell ⟨eb, 0, none⟩ (.int .i64 12)).cell? ⟨pb, 2, none⟩ = _
      rw [cell_set_ne (hne 2), X.out.row 2 (by omega)]; exact HX.out.2.2.2.2.2.1
    · unfold OpQ
      rw [if_pos HX.out.2.2.2.2.2.2.2.2]
      exact ⟨w1, X.out, rfl⟩
  | false =>
    have HL := Lib.hid (pg_load (many0 := 0) hd hdd hG hp hlo h hs)
    have HX := Lib.hid (And.intro h (And.intro hE (And.intro hep (And.intro hp (And.intro h1 (And.intro h2 (And.intro he (And.intro hz hdd))))))))
    clear hd hG hlo h hs hl hE hp h1 h2 hcp hdd
    go_enter Try.func31, Try.ntmps31
    go_wp2_with (go_at_call 32; go_must (refine HL.out.mono ?_; rintro e w1 ⟨rfl, hT⟩; have X := Lib.hid hT; obtain ⟨v5, g, gc, base, hat, hb, hg, hg5⟩ := hT; have k1 := (hat.keeps.cell (a := ⟨eb, 0, none⟩) HX.out.2.1 hep).trans he; have z1 := (hat.keeps.frozen (a := ⟨eb, 0, none⟩) HX.out.2.1 hep).trans hz; have XA := Lib.hid hat; clear hat hb hg hg5))
    go_end0
    have hne : ∀ o, (⟨eb, 0, none⟩ : Addr) ≠ ⟨pb, o, none⟩ := fun o e => HX.out.2.2.1 (by cases e; rfl)
    have z : ∀ o, (w1.setCell ⟨eb, 0, none⟩ (.int .i64 0)).frozen? ⟨pb, o, none⟩ = false := fun o => by
      rw [World.frozen?_setCell]
      exact XA.out.frz o
    refine ⟨rfl, ?_, ?_, z 1, z 2, ?_⟩
    · rw [cell_set_ne (hne 1), XA.out.row 1 (by omega) (by omega) (by omega) (by omega) (by omega)]; exact HX.out.2.2.2.2.1
    · show (w1.setCell ⟨eb, 0, none⟩ (.int .i64 0)).cell? ⟨pb, 2, none⟩ = _
      rw [cell_set_ne (hne 2), XA.out.row 2 (by omega) (by omega) (by omega) (by omega) (by omega)]; exact HX.out.2.2.2.2.2.1
    · unfold OpQ
      rw [if_neg (by rw [HX.out.2.2.2.2.2.2.2.2]; decide)]
      exact ⟨w1, ⟨rfl, X.out⟩, rfl⟩
end Go.Proofs.Ytjbomdhlfjcgmaa
