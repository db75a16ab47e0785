/-
  'append(b, make([]byte, k)...)': noughts behind a row of bytes. No program in sight.
-/
import Derived.Test.YtjbomdhlfjcgmaaBytes
import Derived.Lib.AppendZeros
namespace Go.Proofs.Ytjbomdhlfjcgmaa
set_option linter.unusedSimpArgs false
set_option linter.unusedVariables false
open Go.RowKit

def zstr (k : Nat) : ByteArray := ⟨(List.replicate k (0 : UInt8)).toArray⟩
theorem zstr_size (k : Nat) : (zstr k).size = k := by simp [zstr, ByteArray.size]
theorem zstr_list (k : Nat) : (zstr k).data.toList = List.replicate k 0 := by simp [zstr]
theorem zstr_cells (k : Nat) : Lib.strCells (zstr k) = bcells (List.replicate k 0) := by rw [strCells_eq, zstr_list]

section
variable {P : Program} (w : World)

theorem zeroCells_u8 (k : Nat) : Builtin.zeroCells (Value.int .u8 0).cells k = ((zstr k).extract 0 k).data.map fun b => Value.int .u8 b.toNat := by
  apply Array.ext'
  rw [Array.toList_map]
  have h1 : ((zstr k).extract 0 k).data.toList = List.replicate k 0 := by
    rw [show (zstr k).extract 0 k = zstr k from by
      have := ByteArray.extract_zero_size (b := zstr k)
      rwa [zstr_size] at this]
    exact zstr_list k
  rw [h1, List.map_replicate]
  unfold Builtin.zeroCells
  apply List.ext_getElem?
  intro j
  simp [Value.cells]
  by_cases hj : j < k <;> simp [hj, List.getElem?_replicate, Nat.mod_one]

theorem run_append_zeros_eq (t tn u ty e : TypeId) (i : TypeInfo) (kq kn : IntKind) (ht : P.underlying t = some (.slice e)) (htn : P.underlying tn = some (.int kn)) (hu : P.underlying u = some .string) (hi : P.info? e = some i) (hz : i.zero = some (.int .u8 0))
    (hsize : i.size = 1) (hby : i.bytes = 1) (a : Option Addr) (n c k : Nat) (hk : n + k ≤ 140737488355328) :
    (Builtin.append_ #[t, tn] ty #[.slice a n c, .int kq k]).run P w = (Builtin.append_ #[t, u] ty #[.slice a n c, .string (zstr k)]).run P w := by
  have hw : IntKind.i64.wrap (k : Int) = k := by rw [IntKind.wrap_i64]; omega
  have h1 : ¬ ((k : Int) < 0) := by omega
  have h2 : ¬ (281474976710656 < (k : Int)) := by omega
  have h3 : ¬ (9223372036854775807 < (n : Int) + (k : Int)) := by omega
  have hzc := zeroCells_u8 k
  by_cases hk0 : k = 0
  · subst hk0
    have e0 : ((zstr 0).extract 0 0).data = #[] := rfl
    have hw0 : IntKind.i64.wrap (0 : Int) = 0 := rfl
    by_cases hc : n ≤ c
    · simp [Builtin.append_, run_underlying ht, run_underlying htn, run_underlying hu, sizeOf, typeInfo, hi, hz, hsize, hby, asInt, asIntOf, hw0, h1, h2, h3, hc, Builtin.lenOf, zstr_size, Builtin.firstCells, e0, Result.andThen]
    · have h4 : Builtin.nextslicecap n c * 1 ≤ 281474976710656 := growslice_fits (by omega) (by omega)
      have h5 : ¬ 281474976710656 < Builtin.nextslicecap n c := by omega
      have h6 : ¬ (9223372036854775807 < (n : Int)) := by omega
      simp [Builtin.append_, run_underlying ht, run_underlying htn, run_underlying hu, sizeOf, typeInfo, zeroValue, hi, hz, hsize, hby, asInt, asIntOf, hw0, h1, h2, h5, h6, hc, Builtin.lenOf, zstr_size, Builtin.firstCells, e0, Result.andThen]
  · by_cases hc : n + k ≤ c
    · simp [Builtin.append_, run_underlying ht, run_underlying htn, run_underlying hu, sizeOf, typeInfo, zeroValue, hi, hz, hsize, hby, asInt, asIntOf, hw, h1, h2, h3, hk0, hc, Builtin.lenOf, zstr_size, Builtin.firstCells, hzc, Result.andThen]
    have h4 : Builtin.nextslicecap (n + k) c * 1 ≤ 281474976710656 := growslice_fits (by omega) (by omega)
    have h5 : ¬ 281474976710656 < Builtin.nextslicecap (n + k) c := by omega
    simp [hc, h5, Builtin.append_, run_underlying ht, run_underlying htn, run_underlying hu, sizeOf, typeInfo, zeroValue, hi, hz, hsize, hby, asInt, asIntOf, hw, h1, h2, h3, hk0, Builtin.lenOf, zstr_size, Builtin.firstCells, hzc, Result.andThen]

theorem run_append_zeros (base : Nat) (t tn u ty e : TypeId) (i : TypeInfo) (kq kn : IntKind) (ht : P.underlying t = some (.slice e)) (htn : P.underlying tn = some (.int kn)) (hu : P.underlying u = some .string) (hi : P.info? e = some i) (hz : i.zero = some (.int .u8 0))
    (hsize : i.size = 1) (hby : i.bytes = 1) (v : Value) (n : Nat) (xs : List Value) (hown : w.ownsRow base e 1 v n xs) (k : Nat)
    (h63 : n + k ≤ maxLen) (hbytes : n + k ≤ 140737488355328) (hbase : base ≤ w.heap.size) :
    ∃ v' w', (Builtin.append_ #[t, tn] ty #[v, .int kq k]).run P w = .ok v' w' ∧ w'.ownsRow base e 1 v' (n + k) (xs ++ bcells (List.replicate k 0)) ∧ w.grownBy w' v.ownBlock ∧
      (v'.ownBlock = v.ownBlock ∨ v'.ownBlock = some w.heap.size) := by
  obtain ⟨v', w', hr, h1, h2, h3⟩ := run_append_str_at (P := P) w base t u ty e i ht hu hi hz hsize hby v n xs hown (zstr k) (by rw [zstr_size]; exact h63) (by rw [zstr_size]; exact hbytes) hbase
  rw [zstr_size, zstr_cells] at h1
  refine ⟨v', w', ?_, h1, h2, h3⟩
  rcases hown.2 with ⟨rfl, _⟩ | ⟨g, cap, cur, rfl, _⟩
  · rw [run_append_zeros_eq w t tn u ty e i kq kn ht htn hu hi hz hsize hby _ _ _ k (by omega)]; exact hr
  · rw [run_append_zeros_eq w t tn u ty e i kq kn ht htn hu hi hz hsize hby _ _ _ k (by omega)]; exact hr

theorem wp_append_zeros {o : Oper} {a : Act} {K : Act → World → Prop} {Q : Exit → Act → World → Prop} (sl x : Operand) (t tn u : TypeId)
    (ho : o.op = .call { callee := .builtin .append, args := #[sl, x], argTypes := #[t, tn] })
    (base : Nat) (e : TypeId) (i : TypeInfo) (kq kn : IntKind) (ht : P.underlying t = some (.slice e)) (htn : P.underlying tn = some (.int kn)) (hu : P.underlying u = some .string) (hi : P.info? e = some i) (hz : i.zero = some (.int .u8 0))
    (hsize : i.size = 1) (hby : i.bytes = 1)
    (v : Value) (n : Nat) (xs : List Value) (hs : a.eval sl = v) (hown : w.ownsRow base e 1 v n xs) (k : Nat) (hx : a.eval x = .int kq k)
    (h63 : n + k ≤ maxLen) (hbytes : n + k ≤ 140737488355328) (hbase : base ≤ w.heap.size)
    (h : ∀ v' w', w'.ownsRow base e 1 v' (n + k) (xs ++ bcells (List.replicate k 0)) → w.grownBy w' v.ownBlock → (v'.ownBlock = v.ownBlock ∨ v'.ownBlock = some w.heap.size) → K (a.put o.dst v') w') : o.wp P a w K Q := by
  obtain ⟨v', w', hr, h2, h3, h4⟩ := run_append_zeros (P := P) w base t tn u o.type e i kq kn ht htn hu hi hz hsize hby v n xs hown k h63 hbytes hbase
  unfold Oper.wp execOp
  simp only [ho, resolve, invoke, builtin, Sem.run_bind, Sem.run_pure, Result.andThen_ok, List.map_toArray, List.map_cons, List.map_nil, hs, hx, hr]
  exact h v' w' h2 h3 h4

theorem step_append_zeros {ops : Array Oper} {o : Oper} {a : Act} {K : Act → World → Prop} {Q : Exit → Act → World → Prop} {E : Prop} (hgd : o.guard = none) (sl x : Operand) (t tn u : TypeId)
    (ho : o.op = .call { callee := .builtin .append, args := #[sl, x], argTypes := #[t, tn] })
    (base : Nat) (e : TypeId) (i : TypeInfo) (kq kn : IntKind) (ht : P.underlying t = some (.slice e)) (htn : P.underlying tn = some (.int kn)) (hu : P.underlying u = some .string) (hi : P.info? e = some i) (hz : i.zero = some (.int .u8 0))
    (hsize : i.size = 1) (hby : i.bytes = 1)
    (v : Value) (n : Nat) (xs : List Value) (hs : a.eval sl = v) (hown : w.ownsRow base e 1 v n xs) (k : Nat) (hx : a.eval x = .int kq k)
    (h63 : n + k ≤ maxLen) (hbytes : n + k ≤ 140737488355328) (hbase : base ≤ w.heap.size)
    (h : ∀ v' w', w'.ownsRow base e 1 v' (n + k) (xs ++ bcells (List.replicate k 0)) → w.grownBy w' v.ownBlock → (v'.ownBlock = v.ownBlock ∨ v'.ownBlock = some w.heap.size) → K (a.put o.dst v') w') :
    if Region.wanted o (yielded ops a.tmps) = true then Oper.wp P o a w K Q else E := by
  have hw : Region.wanted o (yielded ops a.tmps) = true := by simp [Region.wanted, hgd]
  rw [if_pos hw]
  exact wp_append_zeros w sl x t tn u ho base e i kq kn ht htn hu hi hz hsize hby v n xs hs hown k hx h63 hbytes hbase h
end
end Go.Proofs.Ytjbomdhlfjcgmaa
