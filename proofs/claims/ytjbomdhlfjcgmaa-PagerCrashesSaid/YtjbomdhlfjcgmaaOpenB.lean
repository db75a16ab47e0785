/-
  How an argument that is a slice of bytes reads. No program in sight but the types' numbers.
-/
import Derived.Test.YtjbomdhlfjcgmaaChecked
import Derived.Test.YtjbomdhlfjcgmaaOpen
import Derived.Test.YtjbomdhlfjcgmaaBytes
import Derived.ChangeSlices
import Derived.OpenShut
namespace Go.Proofs.Ytjbomdhlfjcgmaa
set_option linter.unusedSimpArgs false
set_option linter.unusedVariables false
open Go.ChangeShapes Go.WideShapes Go.RowKit

theorem okWide_slice_at {P : Program} {w : World} {r : Reach} {b0 : Nat} {t e : TypeId} {a : Addr} {len cap : Nat} (ht : P.underlying t = some (.slice e)) (h : Value.okWide P w r b0 t (.slice (some a) len cap)) :
    ∃ b off, a = ⟨b, off, none⟩ ∧ b < w.heap.size ∧ len ≤ cap ∧ cap ≤ maxLen := by
  simp only [Value.okWide, ht, Cell.okWide, Cell.ok] at h
  obtain ⟨h1, h2, _, hs, row, cells, hsh, _⟩ := h
  obtain ⟨b, off, spot⟩ := a
  simp only at hs hsh
  subst hs
  refine ⟨b, off, rfl, ?_, h1, ?_⟩
  · by_cases hb : b < w.heap.size
    · exact hb
    · simp [World.shape?, Array.getElem?_eq_none (by omega : w.heap.size ≤ b)] at hsh
  · unfold maxLen
    simp [IntKind.max, IntKind.signed, IntKind.bits] at h2
    omega

theorem open_bytes {P : Program} {H : Type} {enc : TypeId × Value → H} {w : World} {base : Nat} {spare : Nat → Bool} {held : Bool} {r : Reach} {b0 : Nat} {t e : TypeId} {v : Value} {d : DataW H} {p : List MemPlace}
    (ht : P.underlying t = some (.slice e)) (he : P.underlying e = some (.int .u8)) (hc : P.cellsOf e = 1) (hby : P.bytesOf e = 1)
    (hv : Value.okWide P w r b0 t v) (h : DataW.Trod enc P w base spare held t v d p) (hw : (d.weights P t).all (· ≤ reachBytes) = true) :
    ∃ zs : List UInt8, Reads w v zs ∧ zs.length ≤ 140737488351232 := by
  obtain ⟨a0, len0, cap0, rfl⟩ := okWide_slice ht hv
  obtain ⟨fuel, hf⟩ := h
  rcases open_ints ht he hc hf with ⟨hcs, _⟩ | ⟨a, len, cap, zs, hcs, hb, hl, hm, hz, hx, hcell, hwf⟩
  · simp [Value.cells] at hcs
    obtain ⟨rfl, rfl, rfl⟩ := hcs
    exact ⟨[], Reads.nil _, by simp⟩
  · simp only [Value.cells, List.cons.injEq, and_true] at hcs
    cases hcs
    obtain ⟨b, off, rfl, hbs, _, _⟩ := okWide_slice_at ht hv
    have hlz : len0 ≤ zs.length := by rw [hz]; split <;> omega
    have hd : d = .slice (lits .u8 (zs.take len0)) (lits .u8 (zs.drop len0)) := congrArg Prod.fst hx
    have hlen : len0 ≤ 140737488351232 := by
      subst hd
      simp only [DataW.weights, ht, List.all_cons, Bool.and_eq_true, decide_eq_true_eq, hby, Nat.mul_one] at hw
      have := hw.1
      simp [lits, reachBytes] at this
      omega
    have hnum : ∀ i, i < len0 → ∃ x : UInt8, zs.getD i 0 = (x.toNat : Int) := fun i hi => by
      have : zs.getD i 0 = zs[i] := by simp [List.getD, show i < zs.length by omega]
      have hw' := hwf zs[i] (List.getElem_mem _)
      rw [← this] at hw'
      have hb := bounds_u8 hw'
      exact ⟨UInt8.ofNat (zs.getD i 0).toNat, by rw [UInt8.toNat_ofNat']; omega⟩
    let f : Nat → UInt8 := fun i => UInt8.ofNat (zs.getD i 0).toNat
    have hf : ∀ i, i < len0 → zs.getD i 0 = ((f i).toNat : Int) := fun i hi => by
      obtain ⟨x, hx⟩ := hnum i hi
      show _ = (((UInt8.ofNat (zs.getD i 0).toNat).toNat : Nat) : Int)
      rw [hx]; simp
    refine ⟨(List.range len0).map f, .inr ⟨b, off, cap0, by simp, by simpa using hl, hbs, fun i x hx => ?_⟩, by simpa using hlen⟩
    have hi : i < len0 := by
      rcases Nat.lt_or_ge i len0 with h | h
      · exact h
      · rw [List.getElem?_eq_none (by simpa using h)] at hx; cases hx
    have hx' : f i = x := by simpa [List.getElem?_range hi] using hx
    have hc' := hcell i (by omega)
    rw [Addr.add_lit, hf i hi, hx'] at hc'
    exact hc'
end Go.Proofs.Ytjbomdhlfjcgmaa
