/-
  Plain words: what is written is read back; what is read without fault is written the same. No program in sight.
-/
import Derived.Test.YtehkgcmdndehaaaAnsD
import Derived.Test.YtehkgcmdndehaaaRefW
namespace Go.Proofs.Ytehkgcmdndehaaa
set_option linter.unusedSimpArgs false
set_option linter.unusedVariables false
open Go.RowKit

def I64 (n : Int) : Prop := -9223372036854775808 ≤ n ∧ n ≤ 9223372036854775807

theorem decNat_eight (a0 a1 a2 a3 a4 a5 a6 a7 : UInt8) : decNat [a0, a1, a2, a3, a4, a5, a6, a7] =
    ((((((a0.toNat * 256 + a1.toNat) * 256 + a2.toNat) * 256 + a3.toNat) * 256 + a4.toNat) * 256 + a5.toNat) * 256 + a6.toNat) * 256 + a7.toNat := by
  simp [decNat]

theorem encInt_eight (n : Int) : encInt n = [byteOf (((((((n / 256) / 256) / 256) / 256) / 256) / 256) / 256), byteOf ((((((n / 256) / 256) / 256) / 256) / 256) / 256), byteOf (((((n / 256) / 256) / 256) / 256) / 256), byteOf ((((n / 256) / 256) / 256) / 256), byteOf (((n / 256) / 256) / 256), byteOf ((n / 256) / 256), byteOf (n / 256), byteOf n] := by
  have e : encInt n = [byteOf (n / 72057594037927936), byteOf (n / 281474976710656), byteOf (n / 1099511627776), byteOf (n / 4294967296), byteOf (n / 16777216), byteOf (n / 65536), byteOf (n / 256), byteOf (n / 1)] := rfl
  rw [e]
  have e0 : n / 1 = n := by omega
  have e1 : n / 256 = (n / 256) := by omega
  have e2 : n / 65536 = ((n / 256) / 256) := by omega
  have e3 : n / 16777216 = (((n / 256) / 256) / 256) := by omega
  have e4 : n / 4294967296 = ((((n / 256) / 256) / 256) / 256) := by omega
  have e5 : n / 1099511627776 = (((((n / 256) / 256) / 256) / 256) / 256) := by omega
  have e6 : n / 281474976710656 = ((((((n / 256) / 256) / 256) / 256) / 256) / 256) := by omega
  have e7 : n / 72057594037927936 = (((((((n / 256) / 256) / 256) / 256) / 256) / 256) / 256) := by omega
  rw [e0, e1, e2, e3, e4, e5, e6, e7]

set_option maxRecDepth 100000 in
theorem dec_enc (n : Int) (h : I64 n) : decInt (encInt n) = n := by
  obtain ⟨h1, h2⟩ := h
  rw [decInt, encInt_eight, decNat_eight, IntKind.wrap_i64]
  generalize hq1 : n / 256 = q1
  generalize hq2 : q1 / 256 = q2
  generalize hq3 : q2 / 256 = q3
  generalize hq4 : q3 / 256 = q4
  generalize hq5 : q4 / 256 = q5
  generalize hq6 : q5 / 256 = q6
  generalize hq7 : q6 / 256 = q7
  have e0 := byteOf_mod n
  have e1 := byteOf_mod q1
  have e2 := byteOf_mod q2
  have e3 := byteOf_mod q3
  have e4 := byteOf_mod q4
  have e5 := byteOf_mod q5
  have e6 := byteOf_mod q6
  have e7 := byteOf_mod q7
  generalize (byteOf n).toNat = b0 at *
  generalize (byteOf q1).toNat = b1 at *
  generalize (byteOf q2).toNat = b2 at *
  generalize (byteOf q3).toNat = b3 at *
  generalize (byteOf q4).toNat = b4 at *
  generalize (byteOf q5).toNat = b5 at *
  generalize (byteOf q6).toNat = b6 at *
  generalize (byteOf q7).toNat = b7 at *
  have s6 : ((b7 * 256 + b6 : Nat) : Int) = q6 % 65536 := by omega
  generalize b7 * 256 + b6 = t6 at *
  have s5 : ((t6 * 256 + b5 : Nat) : Int) = q5 % 16777216 := by omega
  generalize t6 * 256 + b5 = t5 at *
  have s4 : ((t5 * 256 + b4 : Nat) : Int) = q4 % 4294967296 := by omega
  generalize t5 * 256 + b4 = t4 at *
  have s3 : ((t4 * 256 + b3 : Nat) : Int) = q3 % 1099511627776 := by omega
  generalize t4 * 256 + b3 = t3 at *
  have s2 : ((t3 * 256 + b2 : Nat) : Int) = q2 % 281474976710656 := by omega
  generalize t3 * 256 + b2 = t2 at *
  have s1 : ((t2 * 256 + b1 : Nat) : Int) = q1 % 72057594037927936 := by omega
  generalize t2 * 256 + b1 = t1 at *
  have s0 : ((t1 * 256 + b0 : Nat) : Int) = n % 18446744073709551616 := by omega
  generalize t1 * 256 + b0 = t0 at *
  omega

theorem byte_of_nat (a : UInt8) (n : Int) (h : n % 256 = (a.toNat : Int)) : byteOf n = a := by
  have := byteOf_mod n
  apply UInt8.toNat_inj.1
  omega

theorem encInt_mod (n : Int) : encInt (n % 18446744073709551616) = encInt n := by
  unfold encInt
  apply List.map_congr_left
  intro k hk
  simp only [List.mem_cons, List.not_mem_nil, or_false] at hk
  exact byte_u64 n k (by omega)

theorem enc_dec (zs : List UInt8) (h : zs.length = 8) : encInt (decInt zs) = zs := by
  have hlt := decNat_lt zs
  rw [h] at hlt
  have hw : decInt zs % 18446744073709551616 = (decNat zs : Int) := by
    rw [decInt, IntKind.wrap_i64]
    have : decNat zs < 18446744073709551616 := hlt
    omega
  rw [← encInt_mod, hw]
  match zs, h with
  | [a0, a1, a2, a3, a4, a5, a6, a7], _ =>
    rw [decNat_eight, encInt_eight]
    have l0 := a0.toNat_lt
    have l1 := a1.toNat_lt
    have l2 := a2.toNat_lt
    have l3 := a3.toNat_lt
    have l4 := a4.toNat_lt
    have l5 := a5.toNat_lt
    have l6 := a6.toNat_lt
    have l7 := a7.toNat_lt
    have d : ∀ (m : Nat) (a : UInt8), ((m * 256 + a.toNat : Nat) : Int) / 256 = (m : Int) := fun m a => by have := a.toNat_lt; omega
    have b : ∀ (m : Nat) (a : UInt8), byteOf ((m * 256 + a.toNat : Nat) : Int) = a := fun m a => byte_of_nat a _ (by have := a.toNat_lt; omega)
    simp only [d, b]
    rw [byte_of_nat a0 _ (by omega)]
end Go.Proofs.Ytehkgcmdndehaaa
