/-
  Slices of bytes that are read: no program in sight.
-/
import Derived.Test.YtjbomdhlfjcgmaaBase
import Derived.Laws.BytesArg
namespace Go.Proofs.Ytjbomdhlfjcgmaa
set_option linter.unusedSimpArgs false
set_option linter.unusedVariables false
open Go.RowKit

/-- A string of bytes. -/
def strB (zs : List UInt8) : ByteArray := ⟨zs.toArray⟩
theorem strB_data (s : ByteArray) : strB s.data.toList = s := by cases s; simp [strB]
theorem strB_size (zs : List UInt8) : (strB zs).size = zs.length := by simp [strB, ByteArray.size]
theorem strB_toList (zs : List UInt8) : (strB zs).data.toList = zs := by simp [strB]
theorem strB_inj {a b : List UInt8} : strB a = strB b ↔ a = b := by
  constructor
  · intro h; have := congrArg (fun s : ByteArray => s.data.toList) h; simpa [strB] using this
  · intro h; rw [h]

/-- The value v reads as the bytes zs. -/
def Reads (w : World) (v : Value) (zs : List UInt8) : Prop :=
  (v = .slice none 0 0 ∧ zs = []) ∨
  ∃ b off cap, v = .slice (some ⟨b, off, none⟩) zs.length cap ∧ zs.length ≤ cap ∧ b < w.heap.size ∧ ∀ (i : Nat) (x : UInt8), zs[i]? = some x → w.cell? ⟨b, off + i, none⟩ = some (.int .u8 (x.toNat : Int))

theorem Reads.nil (w : World) : Reads w (.slice none 0 0) [] := .inl ⟨rfl, rfl⟩

theorem Reads.of_own {w : World} {base : Nat} {v : Value} {zs : List UInt8} (h : w.ownsRow base 5 1 v zs.length (bcells zs)) : Reads w v zs := by
  rcases h.2 with ⟨rfl, h0⟩ | ⟨g, cap, cur, rfl, _, hg, hn, hm, hs, ht⟩
  · exact .inl ⟨rfl, List.eq_nil_of_length_eq_zero h0⟩
  · refine .inr ⟨g, 0, cap, rfl, hn, (Array.getElem?_eq_some_iff.1 hg).1, fun i x hx => ?_⟩
    have h2 : (bcells zs)[i]? = some (.int .u8 (x.toNat : Int)) := by simp [bcells, hx]
    rw [Nat.zero_add, cell_of_row w g i cur _ _ hg]
    rw [← ht, List.getElem?_take] at h2
    split at h2
    · simpa using h2
    · cases h2

theorem Reads.len {w : World} {v : Value} {zs : List UInt8} (h : Reads w v zs) : ∃ a c, v = .slice a zs.length c := by
  rcases h with ⟨rfl, rfl⟩ | ⟨b, off, cap, rfl, _⟩
  · exact ⟨none, 0, rfl⟩
  · exact ⟨_, _, rfl⟩

/-- What lies below a bound reads as it did. -/
theorem Reads.below {w w' : World} {v : Value} {zs : List UInt8} (h : Reads w v zs) (hB : Below w.heap.size w w') : Reads w' v zs := by
  rcases h with h | ⟨b, off, cap, hv, hc, hb, hx⟩
  · exact .inl h
  · exact .inr ⟨b, off, cap, hv, hc, Nat.lt_of_lt_of_le hb hB.size, fun i x h => (hB.cell (p := ⟨b, off + i, none⟩) hb).trans (hx i x h)⟩

theorem Reads.drew {w : World} {v : Value} {zs : List UInt8} (h : Reads w v zs) : Reads w.drew v zs := h

section
variable {P : Program} {w : World}
theorem run_string_of (src dst e : TypeId) (hs : P.underlying src = some (.slice e)) (he : P.underlying e = some (.int .u8)) (hd : P.underlying dst = some .string) {v : Value} {zs : List UInt8} (h : Reads w v zs) :
    (convert src dst v).run P w = .ok (.string (strB zs)) w := by
  rcases h with ⟨rfl, rfl⟩ | ⟨b, off, cap, rfl, hc, hb, hx⟩
  · rw [run_convert_bytes_nil w src e hs he 0 0 dst hd]; rfl
  · rw [run_convert_bytes_arg w src e hs he b off zs.length cap (zs.map fun x => (x.toNat : Int)) (by simp) (fun i hi => by
      rw [hx i zs[i] (List.getElem?_eq_getElem hi)]
      simp [List.getD, hi]) dst hd]
    have e : strOfNums (zs.map fun x => (x.toNat : Int)) = strB zs := by
      unfold strOfNums strB
      congr 2
      rw [List.map_map]
      conv => rhs; rw [← List.map_id zs]
      apply List.map_congr_left
      intro x _
      simp
    rw [e]

theorem wp_string_of {o : Oper} {a : Act} {K : Act → World → Prop} {Q : Exit → Act → World → Prop} (src dst e : TypeId) (x : Operand) (ho : o.op = .convert src dst x)
    (hs : P.underlying src = some (.slice e)) (he : P.underlying e = some (.int .u8)) (hd : P.underlying dst = some .string) (v : Value) (zs : List UInt8) (hx : a.eval x = v) (h : Reads w v zs)
    (hK : K (a.put o.dst (.string (strB zs))) w) : o.wp P a w K Q := by
  unfold Oper.wp execOp
  simp only [ho, Sem.run_bind, hx, run_string_of src dst e hs he hd h, Result.andThen_ok, Sem.run_pure]
  exact hK
/-- 'string(b)' at an operation that is not passed over. -/
theorem wpList_string_of {ops : Array Oper} {rest : List Oper} {o : Oper} {a : Act} {Q : Exit → Act → World → Prop} (src dst e : TypeId) (x : Operand) (ho : o.op = .convert src dst x)
    (hs : P.underlying src = some (.slice e)) (he : P.underlying e = some (.int .u8)) (hd : P.underlying dst = some .string) (v : Value) (zs : List UInt8) (hx : a.eval x = v) (h : Reads w v zs)
    (hw : Region.wanted o (yielded ops a.tmps) = true) (hK : wpList P ops Q rest (a.put o.dst (.string (strB zs))) w) : wpList P ops Q (o :: rest) a w :=
  wpList_step fun K hk => by
    rw [if_pos hw]
    exact wp_string_of src dst e x ho hs he hd v zs hx h (hk _ _ hK)
end
end Go.Proofs.Ytjbomdhlfjcgmaa
