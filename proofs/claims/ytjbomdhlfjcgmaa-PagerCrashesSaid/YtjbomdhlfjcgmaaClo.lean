/-
  slices.Clone of bytes.
-/
import Derived.Test.YtjbomdhlfjcgmaaRdW
namespace Go.Proofs.Ytjbomdhlfjcgmaa
set_option linter.unusedSimpArgs false
set_option linter.unusedVariables false
open Go.RowKit

/-- A copy of bytes. -/
def ClonePost (w : World) (zs : List UInt8) (e : Ending) (w' : World) : Prop :=
  ∃ v', e = .returned v' ∧ Reads w' v' zs ∧ (∀ k, v'.ownBlock = some k → w.heap.size ≤ k) ∧ Below w.heap.size w w'

set_option maxHeartbeats 800000 in
set_option maxRecDepth 100000 in
theorem clone_bytes (v : Value) (zs : List UInt8) (w : World) (h : Reads w v zs) (hl : Fits zs.length) :
    Calls Try.prog 34 #[v] w (ClonePost w zs) := by
  obtain ⟨i0, hi, hz0, hz1, hz2⟩ := info_parts infoU8
  have q28 : ∀ (w : World) (a : Option Addr) (n c n' c' : Nat), (binOp .eql 22 (.slice a n c) (.slice none n' c')).run Try.prog w = .ok (.bool a.isNone) w := fun w a n c n' c' => Lib.run_eql_slice_nil w _ _ a n c n' c' Try.underlying22
  rcases h with ⟨rfl, he⟩ | ⟨b, off, cap, rfl, hlc, hbb, hx⟩
  · go_enter Try.func34, Try.ntmps34
    go_wp2
    go_ret
    exact ⟨.slice none 0 0, rfl, .inl ⟨rfl, he⟩, fun k e => (by cases e), Below.refl _ _⟩
  · have HX := Lib.hid hx
    clear hx
    go_enter Try.func34, Try.ntmps34
    go_wp2_with (at_builtin; refine wpList_append_own _ rfl _ _ 22 rfl w.heap.size 5 i0 (.int .u8 0) 1 1 Try.underlying22 hi hz0 hz1 hz2 rfl (by decide) _ _ _ rfl (World.ownsRow_made w #[] 0 (Nat.le_refl _) (Nat.zero_le _) rfl) ⟨b, off, none⟩ zs.length cap (bcells zs) rfl ?qc1 ?qc2 (bcells_oneCell _) ?qc4 ?qc5 ?qc6 ?_)
    case qc1 => simp [bcells]
    case qc2 =>
      intro j u hj
      have hjn : j < zs.length := by
        have := (List.getElem?_eq_some_iff.1 hj).1
        simpa [bcells] using this
      rw [Addr.add_lit]
      refine Lib.cell?_alloc_some _ ?_
      have hx := HX.out j zs[j] (List.getElem?_eq_getElem hjn)
      have e : (bcells zs)[j]? = some (.int .u8 (zs[j].toNat : Int)) := by simp [bcells, hjn]
      rw [e] at hj
      cases hj
      exact hx
    case qc4 => have := hl; unfold Fits at this; unfold maxLen; omega
    case qc5 => have := hl; unfold Fits at this; omega
    case qc6 => simp
    intro v' w1 hown hgrow hnil
    have hB : Below w.heap.size w w1 := ((Below.refl _ w).alloc (Nat.le_refl _) _).grown hgrow (by simp) (by intro k hk; simp [Value.ownBlock] at hk; omega)
    have F : Hid (ClonePost w zs (.returned v') w1) := Lib.hid (by
      have hown' : w1.ownsRow w.heap.size 5 1 v' zs.length (bcells zs) := by simpa using hown
      exact ⟨v', rfl, Reads.of_own hown', fun k e => (hown'.lt k e).1, hB⟩)
    clear hown hgrow hnil hB
    go_wp2
    go_ret
    exact F.out

end Go.Proofs.Ytjbomdhlfjcgmaa
