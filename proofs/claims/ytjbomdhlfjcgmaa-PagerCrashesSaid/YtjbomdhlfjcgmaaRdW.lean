/-
  Words for readers: what a reading call leaves; a slice of bytes cut in two.
-/
import Derived.Test.YtjbomdhlfjcgmaaKit
import Derived.Test.YtjbomdhlfjcgmaaBytes
namespace Go.Proofs.Ytjbomdhlfjcgmaa
set_option linter.unusedSimpArgs false
set_option linter.unusedVariables false
open Go.RowKit

theorem cell_set_same {w : World} {a : Addr} {u v : Value} (h : w.cell? a = some u) : (w.setCell a v).cell? a = some v := World.cell?_setCell_same (w := w) (a := a) (v := v) h
theorem cell_set_ne {w : World} {a b : Addr} {v : Value} (h : a ≠ b) : (w.setCell a v).cell? b = w.cell? b := World.cell?_setCell_other (w := w) (a := a) (b := b) (v := v) h

/-- What a reading call leaves. -/
structure Rds (w w' : World) (rb : Nat) : Prop where
  os : w'.os = w.os
  tape : w'.tape = w.tape
  output : w'.output = w.output
  size : w.heap.size ≤ w'.heap.size
  block : ∀ k, k < w.heap.size → k ≠ rb → w'.heap[k]? = w.heap[k]?
  row : ∀ o, o ≠ 0 → o ≠ 1 → w'.cell? ⟨rb, o, none⟩ = w.cell? ⟨rb, o, none⟩
  frz : ∀ o, w'.frozen? ⟨rb, o, none⟩ = w.frozen? ⟨rb, o, none⟩

theorem Rds.refl (w : World) (rb : Nat) : Rds w w rb := ⟨rfl, rfl, rfl, Nat.le_refl _, fun _ _ _ => rfl, fun _ _ _ => rfl, fun _ => rfl⟩
theorem Rds.trans {a b c : World} {rb : Nat} (h : Rds a b rb) (k : Rds b c rb) : Rds a c rb :=
  ⟨k.os.trans h.os, k.tape.trans h.tape, k.output.trans h.output, Nat.le_trans h.size k.size, fun j hj hr => (k.block j (Nat.lt_of_lt_of_le hj h.size) hr).trans (h.block j hj hr),
    fun o h0 h1 => (k.row o h0 h1).trans (h.row o h0 h1), fun o => (k.frz o).trans (h.frz o)⟩
theorem Rds.cell {w w' : World} {rb : Nat} (h : Rds w w' rb) {a : Addr} (hk : a.block < w.heap.size) (hr : a.block ≠ rb) : w'.cell? a = w.cell? a := World.cell?_of_block (h.block _ hk hr)
theorem Rds.frozen {w w' : World} {rb : Nat} (h : Rds w w' rb) {a : Addr} (hk : a.block < w.heap.size) (hr : a.block ≠ rb) : w'.frozen? a = w.frozen? a := World.frozen?_of_block (h.block _ hk hr)
theorem Rds.of_below {w w' : World} {rb : Nat} (hB : Below w.heap.size w w') (hb : rb < w.heap.size) : Rds w w' rb :=
  ⟨hB.os, hB.tape, hB.output, hB.size, fun k hk _ => hB.block k hk, fun o _ _ => hB.cell (p := ⟨rb, o, none⟩) hb, fun o => hB.frozen (p := ⟨rb, o, none⟩) hb⟩
theorem Rds.below {w w' : World} {rb B : Nat} (h : Rds w w' rb) (hB : B ≤ rb) (hs : B ≤ w.heap.size) : Below B w w' :=
  ⟨h.os, h.tape, h.output, h.size, fun k hk => h.block k (by omega) (by omega)⟩
/-- What is read elsewhere reads as it did. -/
theorem Reads.rds {w w' : World} {rb : Nat} {v : Value} {zs : List UInt8} (h : Reads w v zs) (hr : Rds w w' rb) (hv : v.ownBlock ≠ some rb) : Reads w' v zs := by
  rcases h with h | ⟨b, off, cap, rfl, hc, hb, hx⟩
  · exact .inl h
  · exact .inr ⟨b, off, cap, rfl, hc, Nat.lt_of_lt_of_le hb hr.size, fun i x hi => (hr.cell (a := ⟨b, off + i, none⟩) hb (fun e => hv (by rw [show b = rb from e]; rfl))).trans (hx i x hi)⟩

theorem zeros_reads {w : World} {base n : Nat} {v : Value} (h : w.ownsRow base 5 1 v n (madeCells #[Value.int .u8 0] n).toList) : Reads w v (List.replicate n 0) := by
  have e : (madeCells #[Value.int .u8 0] n).toList = bcells (List.replicate n 0) := by
    rw [toList_madeCells_one]
    simp [bcells]
  rw [e] at h
  exact Reads.of_own (base := base) (by simpa using h)

/-- A slice that reads, cut in two. -/
theorem reads_take {w : World} {b off cap : Nat} {zs : List UInt8} (n : Nat) (hn : n ≤ zs.length) (hc : zs.length ≤ cap) (hb : b < w.heap.size)
    (hx : ∀ (i : Nat) (x : UInt8), zs[i]? = some x → w.cell? ⟨b, off + i, none⟩ = some (.int .u8 (x.toNat : Int))) : Reads w (.slice (some ⟨b, off, none⟩) n cap) (zs.take n) := by
  refine .inr ⟨b, off, cap, by rw [List.length_take, Nat.min_eq_left hn], by rw [List.length_take]; omega, hb, fun i x hi => ?_⟩
  rw [List.getElem?_take] at hi
  split at hi
  · exact hx i x hi
  · cases hi
theorem reads_drop {w : World} {b off cap : Nat} {zs : List UInt8} (n : Nat) (hn : n ≤ zs.length) (hc : zs.length ≤ cap) (hb : b < w.heap.size)
    (hx : ∀ (i : Nat) (x : UInt8), zs[i]? = some x → w.cell? ⟨b, off + i, none⟩ = some (.int .u8 (x.toNat : Int))) : Reads w (.slice (some ⟨b, off + n, none⟩) (zs.length - n) (cap - n)) (zs.drop n) := by
  refine .inr ⟨b, off + n, cap - n, by rw [List.length_drop], by rw [List.length_drop]; omega, hb, fun i x hi => ?_⟩
  rw [List.getElem?_drop] at hi
  rw [Nat.add_assoc]
  exact hx _ x hi
theorem reads_drop_all {w : World} {b off cap : Nat} {zs : List UInt8} (hc : zs.length ≤ cap) (hb : b < w.heap.size) : Reads w (.slice (some ⟨b, off, none⟩) 0 0) (zs.drop cap) := by
  have e : zs.drop cap = [] := List.drop_eq_nil_of_le hc
  exact .inr ⟨b, off, 0, by rw [e]; rfl, by rw [e]; simp, hb, fun i x hi => by rw [e] at hi; simp at hi⟩

end Go.Proofs.Ytjbomdhlfjcgmaa
