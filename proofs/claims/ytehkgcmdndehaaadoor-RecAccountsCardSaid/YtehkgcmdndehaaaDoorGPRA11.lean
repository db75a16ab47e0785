/-
  Plain words: what is written is read back; what is read without fault is written the same. No program in sight.
-/
/-
  Plain words: an answer that is written is read back. No program in sight.
-/
/-
  Plain words: what is read without fault is written the same. No program in sight.
-/
import Derived.Test.YtehkgcmdndehaaaDoorGPRA02
import Derived.Test.YtehkgcmdndehaaaDoorGPRA03
namespace Go.Proofs.YtehkgcmdndehaaaDoor
set_option linter.unusedSimpArgs false
set_option linter.unusedVariables false
open Go.RowKit

def I64 (n : Int) : Prop := -9223372036854775808 ≤ n ∧ n ≤ 9223372036854775807

theorem decNat_eight (a0 a1 a2 a3 a4 a5 a6 a7 : UInt8) : decNat [a0, a1, a2, a3, a4, a5, a6, a7] =
    ((((((a0.toNat * 256 + a1.toNat) * 256 + a2.toNat) * 256 + a3.toNat) * 256 + a4.toNat) * 256 + a5.toNat) * 256 + a6.toNat) * 256 + a7.toNat := by
  simp [decNat]

theorem encInt_eight (n : Int) : encInt n = [byteOf (((((((n / 256) / 256) / 256) / 256) / 256) / 256) / 256), byteOf ((((((n / 256) / 256) / 256) / 256) / 256) / 256), byteOf (((((n / 256) / 256) / 256) / 256) / 256), byteOf ((((n / 256) / 256) / 256) / 256), byteOf (((n / 256) / 256) / 256), byteOf ((n / 256) / 256), byteOf (n / 256), byteOf n] := by
  have e : encInt n = [byteOf (n / 72057594037927936), byteOf (n / 281474976710656), byteOf (n / 1099511627776), byteOf (n / 4294967296), byteOf (n / 16777216), byteOf (n / 65536), byteOf (n / 256), byteOf (n / 1)] := rfl
  rw [e]
  have e0 : n / 1 = n := by omega
  have e1 : n / 256 = (n / 256) := by omega
  have e2 : n / 65536 = ((n / 256) / 256) := by omega
  have e3 : n / 16777216 = (((n / 256) / 256) / 256) := by omega
  have e4 : n / 4294967296 = ((((n / 256) / 256) / 256) / 256) := by omega
  have e5 : n / 1099511627776 = (((((n / 256) / 256) / 256) / 256) / 256) := by omega
  have e6 : n / 281474976710656 = ((((((n / 256) / 256) / 256) / 256) / 256) / 256) := by omega
  have e7 : n / 72057594037927936 = (((((((n / 256) / 256) / 256) / 256) / 256) / 256) / 256) := by omega
  rw [e0, e1, e2, e3, e4, e5, e6, e7]

set_option maxRecDepth 100000 in
theorem dec_enc (n : Int) (h : I64 n) : decInt (encInt n) = n := by
  obtain ⟨h1, h2⟩ := h
  rw [decInt, encInt_eight, decNat_eight, IntKind.wrap_i64]
  generalize hq1 : n / 256 = q1
  generalize hq2 : q1 / 256 = q2
  generalize hq3 : q2 / 256 = q3
  generalize hq4 : q3 / 256 = q4
  generalize hq5 : q4 / 256 = q5
  generalize hq6 : q5 / 256 = q6
  generalize hq7 : q6 / 256 = q7
  have e0 := byteOf_mod n
  have e1 := byteOf_mod q1
  have e2 := byteOf_mod q2
  have e3 := byteOf_mod q3
  have e4 := byteOf_mod q4
  have e5 := byteOf_mod q5
  have e6 := byteOf_mod q6
  have e7 := byteOf_mod q7
  generalize (byteOf n).toNat = b0 at *
  generalize (byteOf q1).toNat = b1 at *
  generalize (byteOf q2).toNat = b2 at *
  generalize (byteOf q3).toNat = b3 at *
  generalize (byteOf q4).toNat = b4 at *
  generalize (byteOf q5).toNat = b5 at *
  generalize (byteOf q6).toNat = b6 at *
  generalize (byteOf q7).toNat = b7 at *
  have s6 : ((b7 * 256 + b6 : Nat) : Int) = q6 % 65536 := by omega
  generalize b7 * 256 + b6 = t6 at *
  have s5 : ((t6 * 256 + b5 : Nat) : Int) = q5 % 16777216 := by omega
  generalize t6 * 256 + b5 = t5 at *
  have s4 : ((t5 * 256 + b4 : Nat) : Int) = q4 % 4294967296 := by omega
  generalize t5 * 256 + b4 = t4 at *
  have s3 : ((t4 * 256 + b3 : Nat) : Int) = q3 % 1099511627776 := by omega
  generalize t4 * 256 + b3 = t3 at *
  have s2 : ((t3 * 256 + b2 : Nat) : Int) = q2 % 281474976710656 := by omega
  generalize t3 * 256 + b2 = t2 at *
  have s1 : ((t2 * 256 + b1 : Nat) : Int) = q1 % 72057594037927936 := by omega
  generalize t2 * 256 + b1 = t1 at *
  have s0 : ((t1 * 256 + b0 : Nat) : Int) = n % 18446744073709551616 := by omega
  generalize t1 * 256 + b0 = t0 at *
  omega

theorem byte_of_nat (a : UInt8) (n : Int) (h : n % 256 = (a.toNat : Int)) : byteOf n = a := by
  have := byteOf_mod n
  apply UInt8.toNat_inj.1
  omega

theorem encInt_mod (n : Int) : encInt (n % 18446744073709551616) = encInt n := by
  unfold encInt
  apply List.map_congr_left
  intro k hk
  simp only [List.mem_cons, List.not_mem_nil, or_false] at hk
  exact byte_u64 n k (by omega)

theorem enc_dec (zs : List UInt8) (h : zs.length = 8) : encInt (decInt zs) = zs := by
  have hlt := decNat_lt zs
  rw [h] at hlt
  have hw : decInt zs % 18446744073709551616 = (decNat zs : Int) := by
    rw [decInt, IntKind.wrap_i64]
    have : decNat zs < 18446744073709551616 := hlt
    omega
  rw [← encInt_mod, hw]
  match zs, h with
  | [a0, a1, a2, a3, a4, a5, a6, a7], _ =>
    rw [decNat_eight, encInt_eight]
    have l0 := a0.toNat_lt
    have l1 := a1.toNat_lt
    have l2 := a2.toNat_lt
    have l3 := a3.toNat_lt
    have l4 := a4.toNat_lt
    have l5 := a5.toNat_lt
    have l6 := a6.toNat_lt
    have l7 := a7.toNat_lt
    have d : ∀ (m : Nat) (a : UInt8), ((m * 256 + a.toNat : Nat) : Int) / 256 = (m : Int) := fun m a => by have := a.toNat_lt; omega
    have b : ∀ (m : Nat) (a : UInt8), byteOf ((m * 256 + a.toNat : Nat) : Int) = a := fun m a => byte_of_nat a _ (by have := a.toNat_lt; omega)
    simp only [d, b]
    rw [byte_of_nat a0 _ (by omega)]
end Go.Proofs.YtehkgcmdndehaaaDoor

namespace Go.Proofs.YtehkgcmdndehaaaDoor
set_option linter.unusedSimpArgs false
set_option linter.unusedVariables false
open Go.RowKit

theorem take_enc (a b : List UInt8) (n : Nat) (h : n = a.length) : Rd.take ⟨a ++ b, false⟩ n = (a, ⟨b, false⟩) := by
  subst h
  unfold Rd.take
  rw [if_neg (by simp)]
  simp
theorem one_enc (x : UInt8) (b : List UInt8) : Rd.one ⟨x :: b, false⟩ = ((x.toNat : Int), ⟨b, false⟩) := by
  have e : Rd.take ⟨x :: b, false⟩ 1 = ([x], ⟨b, false⟩) := take_enc [x] b 1 rfl
  unfold Rd.one
  rw [e]
  rfl
theorem int_enc (n : Int) (b : List UInt8) (h : I64 n) : Rd.int ⟨encInt n ++ b, false⟩ = (n, ⟨b, false⟩) := by
  unfold Rd.int
  rw [take_enc (encInt n) b 8 (encInt_length n).symm, dec_enc n h]
theorem ints_enc : ∀ (ns : List Int) (b : List UInt8), (∀ n ∈ ns, I64 n) → Rd.ints ns.length ⟨encInts ns ++ b, false⟩ = (ns, ⟨b, false⟩)
  | [], b, _ => rfl
  | n :: r, b, h => by
    have e : encInts (n :: r) ++ b = encInt n ++ (encInts r ++ b) := by simp [encInts]
    rw [e, List.length_cons, Rd.ints, int_enc n _ (h n (by simp)), ints_enc r b (fun m hm => h m (by simp [hm]))]
theorem str_enc (s : ByteArray) (b : List UInt8) (h : s.size ≤ 255) : Rd.str ⟨encText s ++ b, false⟩ = (s.data.toList, ⟨b, false⟩) := by
  have e : encText s ++ b = byteOf s.size :: (s.data.toList ++ b) := rfl
  have hb : ((byteOf (s.size : Int)).toNat : Int) = s.size := by rw [byteOf_mod]; omega
  have hl : s.size = s.data.toList.length := rfl
  unfold Rd.str
  rw [e, one_enc]
  simp only [hb, Int.toNat_natCast]
  rw [take_enc s.data.toList b s.size hl]
  rfl

def AnsFit (a : AnsD) : Prop := (0 ≤ a.err ∧ a.err ≤ 255) ∧ (I64 a.left ∧ I64 a.over ∧ I64 a.n) ∧ (∀ n ∈ a.stmt.nums, I64 n) ∧ a.stmt.name.size ≤ 255 ∧ (a.stmt.term = 0 → a.stmt = stmtZ)

theorem parse_enc (a : AnsD) (h : AnsFit a) : parseAns (encAns a) = (a, 0) := by
  obtain ⟨he, ⟨h1, h2, h3⟩, hn, hs, hz⟩ := h
  have hb : ((byteOf a.err).toNat : Int) = a.err := by rw [byteOf_mod]; omega
  have e1 : Rd.one ⟨encAns a, false⟩ = (a.err, ⟨encInts [a.left, a.over, a.n] ++ (if a.stmt.term = 0 then [0] else 1 :: encStmt a.stmt), false⟩) := by
    rw [encAns, List.cons_append, one_enc, hb]
  have e2 : Rd.ints 3 ⟨encInts [a.left, a.over, a.n] ++ (if a.stmt.term = 0 then [0] else 1 :: encStmt a.stmt), false⟩ = ([a.left, a.over, a.n], ⟨if a.stmt.term = 0 then [0] else 1 :: encStmt a.stmt, false⟩) :=
    ints_enc [a.left, a.over, a.n] _ (by intro n hn; simp at hn; rcases hn with rfl | rfl | rfl <;> assumption)
  by_cases ht : a.stmt.term = 0
  · rw [if_pos ht] at e1 e2
    have e3 : Rd.one ⟨[0], false⟩ = (0, ⟨[], false⟩) := one_enc 0 []
    unfold parseAns
    simp only [e1, e2, e3]
    rw [← hz ht]
    cases a
    simp
  · rw [if_neg ht] at e1 e2
    have e3 : Rd.one ⟨1 :: encStmt a.stmt, false⟩ = (1, ⟨encStmt a.stmt, false⟩) := one_enc 1 _
    have e4 : Rd.str ⟨encStmt a.stmt, false⟩ = (a.stmt.name.data.toList, ⟨encInts a.stmt.nums, false⟩) := str_enc _ _ hs
    have e5 : Rd.ints 8 ⟨encInts a.stmt.nums, false⟩ = (a.stmt.nums, ⟨[], false⟩) := by
      have := ints_enc a.stmt.nums [] hn
      rwa [List.append_nil] at this
    have e6 : stmtOf a.stmt.name.data.toList a.stmt.nums = a.stmt := by
      unfold stmtOf
      rw [strB_data]
      rfl
    unfold parseAns
    simp only [e1, e2, e3, e4, e5]
    simp [e6, ht]
end Go.Proofs.YtehkgcmdndehaaaDoor

namespace Go.Proofs.YtehkgcmdndehaaaDoor
set_option linter.unusedSimpArgs false
set_option linter.unusedVariables false
open Go.RowKit

theorem take_dec (r : Rd) (n : Nat) (h : (r.take n).2.cut = false) : r.cut = false ∧ r.bs = (r.take n).1 ++ (r.take n).2.bs := by
  unfold Rd.take at *
  by_cases hc : r.cut = true ∨ r.bs.length < n
  · rw [if_pos hc] at h; cases h
  · simp only [if_neg hc]
    simp only [not_or, Bool.not_eq_true] at hc
    exact ⟨hc.1, (List.take_append_drop n r.bs).symm⟩
theorem byteOf_u8 (x : UInt8) : byteOf (x.toNat : Int) = x := byte_of_nat x _ (by have := x.toNat_lt; omega)
theorem one_dec (r : Rd) (h : r.one.2.cut = false) : r.cut = false ∧ r.bs = byteOf r.one.1 :: r.one.2.bs := by
  have ht := take_dec r 1 h
  have hl := Rd.take_length r 1
  refine ⟨ht.1, ht.2.trans ?_⟩
  unfold Rd.one
  match (r.take 1).1, hl with
  | [x], _ => simp [byteOf_u8]
theorem int_dec (r : Rd) (h : r.int.2.cut = false) : r.cut = false ∧ r.bs = encInt r.int.1 ++ r.int.2.bs := by
  have ht := take_dec r 8 h
  have hl := Rd.take_length r 8
  refine ⟨ht.1, ht.2.trans ?_⟩
  unfold Rd.int
  simp only []
  rw [enc_dec _ hl]
theorem ints_dec : ∀ (n : Nat) (r : Rd), (Rd.ints n r).2.cut = false → r.cut = false ∧ r.bs = encInts (Rd.ints n r).1 ++ (Rd.ints n r).2.bs
  | 0, r, h => ⟨h, rfl⟩
  | n + 1, r, h => by
    have h1 := ints_dec n r.int.2 h
    have h2 := int_dec r h1.1
    refine ⟨h2.1, ?_⟩
    rw [Rd.ints]
    simp only [encInts, List.flatMap_cons]
    rw [List.append_assoc]
    have := h1.2
    rw [encInts] at this
    rw [← this]
    exact h2.2
theorem str_dec (r : Rd) (h : r.str.2.cut = false) : r.cut = false ∧ r.bs = encText (strB r.str.1) ++ r.str.2.bs := by
  have e : r.str = (if (r.one.2.take r.one.1.toNat).2.cut then [] else (r.one.2.take r.one.1.toNat).1, (r.one.2.take r.one.1.toNat).2) := rfl
  have h' : (r.one.2.take r.one.1.toNat).2.cut = false := by rw [e] at h; exact h
  have h2 := take_dec _ _ h'
  have h1 := one_dec r h2.1
  have hl := Rd.take_length r.one.2 r.one.1.toNat
  have e2 : r.str = ((r.one.2.take r.one.1.toNat).1, (r.one.2.take r.one.1.toNat).2) := by rw [e, h']; rfl
  refine ⟨h1.1, ?_⟩
  rw [e2, h1.2]
  have hn : 0 ≤ r.one.1 := by unfold Rd.one; simp only []; omega
  have ht : encText (strB (r.one.2.take r.one.1.toNat).1) = byteOf r.one.1 :: (r.one.2.take r.one.1.toNat).1 := by
    rw [encText, strB_size, hl, strB_toList, Int.toNat_of_nonneg hn]
  rw [ht, List.cons_append, ← h2.2]

theorem three_getD (l : List Int) (h : l.length = 3) : [l.getD 0 0, l.getD 1 0, l.getD 2 0] = l := by
  match l, h with
  | [a, b, c], _ => rfl
theorem eight_nums (bs : List UInt8) (l : List Int) (h : l.length = 8) : (stmtOf bs l).nums = l := by
  match l, h with
  | [a, b, c, d, e, f, g, k], _ => rfl

end Go.Proofs.YtehkgcmdndehaaaDoor

