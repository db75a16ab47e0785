/-
  What a call leaves that writes into one block at some places, makes new blocks, and nothing else. No function in sight.
-/
import Derived.Test.YtehkgcmdndehaaaDoorReB
import Derived.Deep.MidRow
namespace Go.Proofs.YtehkgcmdndehaaaDoor
set_option linter.unusedSimpArgs false
set_option linter.unusedVariables false
open Go.RowKit

structure Mods (w w' : World) (rb : Nat) (S : Nat → Prop) : Prop where
  os : w'.os = w.os
  tape : w'.tape = w.tape
  output : w'.output = w.output
  size : w.heap.size ≤ w'.heap.size
  block : ∀ k, k < w.heap.size → k ≠ rb → w'.heap[k]? = w.heap[k]?
  row : ∀ o, ¬ S o → w'.cell? ⟨rb, o, none⟩ = w.cell? ⟨rb, o, none⟩
  frz : ∀ o, w'.frozen? ⟨rb, o, none⟩ = w.frozen? ⟨rb, o, none⟩

theorem Mods.refl (w : World) (rb : Nat) (S : Nat → Prop) : Mods w w rb S := ⟨rfl, rfl, rfl, Nat.le_refl _, fun _ _ _ => rfl, fun _ _ => rfl, fun _ => rfl⟩
theorem Mods.trans {a b c : World} {rb : Nat} {S : Nat → Prop} (h : Mods a b rb S) (k : Mods b c rb S) : Mods a c rb S :=
  ⟨k.os.trans h.os, k.tape.trans h.tape, k.output.trans h.output, Nat.le_trans h.size k.size, fun j hj hr => (k.block j (Nat.lt_of_lt_of_le hj h.size) hr).trans (h.block j hj hr),
    fun o ho => (k.row o ho).trans (h.row o ho), fun o => (k.frz o).trans (h.frz o)⟩
theorem Mods.mono {a b : World} {rb : Nat} {S S' : Nat → Prop} (h : Mods a b rb S) (hS : ∀ o, S o → S' o) : Mods a b rb S' :=
  ⟨h.os, h.tape, h.output, h.size, h.block, fun o ho => h.row o (fun e => ho (hS o e)), h.frz⟩
theorem Mods.of_rds {a b : World} {rb : Nat} {S : Nat → Prop} (h : Rds a b rb) (h0 : S 0) (h1 : S 1) : Mods a b rb S :=
  ⟨h.os, h.tape, h.output, h.size, h.block, fun o ho => h.row o (fun e => ho (e ▸ h0)) (fun e => ho (e ▸ h1)), h.frz⟩
theorem Mods.of_below {a b : World} {rb : Nat} {S : Nat → Prop} (hB : Below a.heap.size a b) (hb : rb < a.heap.size) : Mods a b rb S :=
  ⟨hB.os, hB.tape, hB.output, hB.size, fun k hk _ => hB.block k hk, fun o _ => hB.cell (p := ⟨rb, o, none⟩) hb, fun o => hB.frozen (p := ⟨rb, o, none⟩) hb⟩
theorem Mods.of_ints {a b : World} {rb : Nat} {v : Value} {offs : List Nat} {r : Re} {S : Nat → Prop} (h : IntsRe a b rb rb v offs r) (hb : rb < a.heap.size) (h0 : S 0) (h1 : S 1) (hS : ∀ o ∈ offs, S o) : Mods a b rb S :=
  ⟨h.os, h.tape, h.output, h.size, fun k hk hr => h.block k hk hr hr, fun o ho => h.keep rb o hb (fun _ => ⟨fun e => ho (e ▸ h0), fun e => ho (e ▸ h1)⟩) (fun _ hm => ho (hS o hm)), fun o => h.frz rb o hb⟩
theorem Mods.drew {a b : World} {rb : Nat} {S : Nat → Prop} (h : Mods a b rb S) : Mods a b.drew rb S := ⟨h.os, h.tape, h.output, h.size, h.block, h.row, h.frz⟩
theorem Mods.of_setCell {a : World} {rb o : Nat} {u : Value} {S : Nat → Prop} (ho : S o) : Mods a (a.setCell ⟨rb, o, none⟩ u) rb S :=
  ⟨rfl, rfl, rfl, by simp [World.setCell], fun k _ hr => Below.heap_setCell _ _ _ _ hr, fun p hp => cell_set_ne (fun e => hp (by cases e; exact ho)), fun p => by simp⟩
theorem Mods.of_setCells {rb : Nat} {S : Nat → Prop} : ∀ (vs : List Value) (o : Nat) (a : World), (∀ j, j < vs.length → S (o + j)) → Mods a (a.setCells rb o vs) rb S
  | [], _, _, _ => Mods.refl _ _ _
  | v :: r, o, a, h => (Mods.of_setCell (by simpa using h 0 (by simp))).trans (Mods.of_setCells r (o + 1) _ (fun j hj => by have := h (j + 1) (by simpa using hj); rwa [show o + (j + 1) = o + 1 + j by omega] at this))
theorem Mods.below {w w' : World} {rb B : Nat} {S : Nat → Prop} (h : Mods w w' rb S) (hB : B ≤ rb) (hs : B ≤ w.heap.size) : Below B w w' :=
  ⟨h.os, h.tape, h.output, h.size, fun k hk => h.block k (by omega) (by omega)⟩
theorem Reads.mods {w w' : World} {rb : Nat} {v : Value} {zs : List UInt8} {S : Nat → Prop} (h : Reads w v zs) (hr : Mods w w' rb S) (hv : v.ownBlock ≠ some rb) : Reads w' v zs := by
  rcases h with h | ⟨b, off, cap, rfl, hc, hb, hx⟩
  · exact .inl h
  · exact .inr ⟨b, off, cap, rfl, hc, Nat.lt_of_lt_of_le hb hr.size, fun i x hi => (World.cell?_of_block (hr.block b hb (fun e => hv (by rw [e]; rfl)))).trans (hx i x hi)⟩
theorem ReAt.mods {w w' : World} {rb : Nat} {v : Value} {r : Re} {S : Nat → Prop} (h : ReAt w rb v r) (hr : Mods w w' rb S) (h0 : ¬ S 0) (h1 : ¬ S 1) : ReAt w' rb v r :=
  ⟨(hr.row 0 h0).trans h.c0, (hr.row 1 h1).trans h.c1, (hr.frz 0).trans h.f0, (hr.frz 1).trans h.f1, h.reads.mods hr h.apart, h.apart⟩
end Go.Proofs.YtehkgcmdndehaaaDoor
