/-
  Plain words for readers: numbers out of bytes; a store elsewhere.
-/
/-
  rec's reader where the document's stands. No program in sight.
-/
/-
  The document's Number: sixteen hex digits.
-/
/-
  The order of sixteen hex digits is the order of the numbers.
-/
import Derived.Test.YtehkgcmdndehaaaDoorGPRA15
import Derived.Test.YtehkgcmdndehaaaDoorGPRA12
import Derived.Test.YtehkgcmdndehaaaDoorGPRA05
import Derived.Test.YtehkgcmdndehaaaDoorGPRA01
import Derived.Laws.Bits64b
import Derived.Test.YtehkgcmdndehaaaDoorGPRA10
import Derived.Laws.BitsLemmas
namespace Go.Proofs.YtehkgcmdndehaaaDoor
set_option linter.unusedSimpArgs false
set_option linter.unusedVariables false
open Go.RowKit

theorem ite_okB (p : Prop) [Decidable p] (b : Bool) (w : World) : (if p then Result.ok (Value.bool b) w else Result.ok (Value.bool false) w) = Result.ok (Value.bool (decide p && b)) w := by split <;> simp [*]
theorem ite_okN (p : Prop) [Decidable p] (b : Bool) (w : World) : (if p then Result.ok (Value.bool b) w else Result.ok (Value.bool true) w) = Result.ok (Value.bool (!decide p || b)) w := by split <;> simp [*]
def eqLot (x y : LotD) : Bool :=
  if x.id = y.id then if x.kind = y.kind then if x.frm = y.frm then if x.till = y.till then if x.granted = y.granted then if x.consumed = y.consumed then if x.held = y.held then if x.expired = y.expired then if x.rolled = y.rolled then true else false else false else false else false else false else false else false else false else false
theorem eqLot_refl (x : LotD) : eqLot x x = true := by simp [eqLot]
set_option maxRecDepth 100000 in
theorem eql_eqLot (x y : LotD) (w : World) : (binOp .eql 72 (.agg x.cells) (.agg y.cells)).run Tryd.prog w = .ok (.bool (eqLot x y)) w := by
  unfold LotD.cells eqLot
  go_simp
  simp [ite_okB]
set_option maxRecDepth 100000 in
theorem neq_eqLot (x y : LotD) (w : World) : (binOp .neq 72 (.agg x.cells) (.agg y.cells)).run Tryd.prog w = .ok (.bool (!eqLot x y)) w := by
  unfold LotD.cells eqLot
  go_simp
  simp [ite_okB, ite_okN]
def eqPart (x y : PartD) : Bool :=
  if x.lot = y.lot then if x.n = y.n then true else false else false
theorem eqPart_refl (x : PartD) : eqPart x x = true := by simp [eqPart]
set_option maxRecDepth 100000 in
theorem eql_eqPart (x y : PartD) (w : World) : (binOp .eql 86 (.agg x.cells) (.agg y.cells)).run Tryd.prog w = .ok (.bool (eqPart x y)) w := by
  unfold PartD.cells eqPart
  go_simp
  simp [ite_okB]
set_option maxRecDepth 100000 in
theorem neq_eqPart (x y : PartD) (w : World) : (binOp .neq 86 (.agg x.cells) (.agg y.cells)).run Tryd.prog w = .ok (.bool (!eqPart x y)) w := by
  unfold PartD.cells eqPart
  go_simp
  simp [ite_okB, ite_okN]
def eqEnt (x y : EntryD) : Bool :=
  if x.id = y.id then if x.ans.err = y.ans.err then if x.ans.left = y.ans.left then if x.ans.over = y.ans.over then if x.ans.n = y.ans.n then if x.ans.stmt.name.toList = y.ans.stmt.name.toList then if x.ans.stmt.term = y.ans.stmt.term then if x.ans.stmt.frm = y.ans.stmt.frm then if x.ans.stmt.till = y.ans.stmt.till then if x.ans.stmt.granted = y.ans.stmt.granted then if x.ans.stmt.consumed = y.ans.stmt.consumed then if x.ans.stmt.expired = y.ans.stmt.expired then if x.ans.stmt.rolled = y.ans.stmt.rolled then if x.ans.stmt.over = y.ans.stmt.over then true else false else false else false else false else false else false else false else false else false else false else false else false else false else false
theorem eqEnt_refl (x : EntryD) : eqEnt x x = true := by simp [eqEnt]
set_option maxRecDepth 100000 in
theorem eql_eqEnt (x y : EntryD) (w : World) : (binOp .eql 77 (.agg x.cells) (.agg y.cells)).run Tryd.prog w = .ok (.bool (eqEnt x y)) w := by
  unfold EntryD.cells eqEnt
  go_simp
  simp [ite_okB]
set_option maxRecDepth 100000 in
theorem neq_eqEnt (x y : EntryD) (w : World) : (binOp .neq 77 (.agg x.cells) (.agg y.cells)).run Tryd.prog w = .ok (.bool (!eqEnt x y)) w := by
  unfold EntryD.cells eqEnt
  go_simp
  simp [ite_okB, ite_okN]
end Go.Proofs.YtehkgcmdndehaaaDoor

namespace Go.Proofs.YtehkgcmdndehaaaDoor
set_option linter.unusedSimpArgs false
set_option linter.unusedVariables false
open Go.RowKit

theorem Reads.set {w : World} {v u : Value} {zs : List UInt8} {a : Addr} (h : Reads w v zs) (hv : v.ownBlock ≠ some a.block) : Reads (w.setCell a u) v zs := by
  rcases h with h | ⟨b, off, cap, rfl, hc, hb, hx⟩
  · exact .inl h
  · exact .inr ⟨b, off, cap, rfl, hc, by simpa [World.setCell] using hb, fun i x hi => (cell_set_ne (fun e => hv (by rw [e]; rfl))).trans (hx i x hi)⟩

theorem decInt_wrap (zs : List UInt8) : decInt zs = wrap64 (decNat zs) := IntWalk.i64_left _


theorem or_byte (a b : Nat) (ha : a < 72057594037927936) (hb : b < 256) : bits .or .u64 (IntKind.u64.wrap ((a : Int) * 256)) (IntKind.u64.wrap (b : Int)) = ((a * 256 + b : Nat) : Int) := by
  have e1 : IntKind.u64.wrap ((a : Int) * 256) = ((a * 256 : Nat) : Int) := by rw [IntKind.wrap_u64]; omega
  have e2 : IntKind.u64.wrap (b : Int) = ((b : Nat) : Int) := by rw [IntKind.wrap_u64]; omega
  rw [e1, e2, bits_or_u64_nat _ _ (by omega) (by omega)]
  congr 1
  have := Nat.shiftLeft_add_eq_or_of_lt (b := b) (i := 8) (by omega) a
  rw [Nat.shiftLeft_eq] at this
  exact this.symm


theorem decNat_step (zs : List UInt8) (j : Nat) (x : UInt8) (hx : zs[j]? = some x) : decNat (zs.take (j + 1)) = decNat (zs.take j) * 256 + x.toNat := by
  rw [List.take_add_one, hx]
  exact decNat_snoc _ _

end Go.Proofs.YtehkgcmdndehaaaDoor

namespace Go.Proofs.YtehkgcmdndehaaaDoor
set_option linter.unusedSimpArgs false
set_option linter.unusedVariables false
open Go.RowKit

/-- What End answers. -/
def endE (r : Rd) : Int := if r.cut = true then 8 else if 0 < r.bs.length then 9 else 0
/-- rec's reader where this one stands. -/
def reOf (r : Rd) : Re := ⟨r.bs, if r.cut = true then 8 else 0⟩
theorem re_take (r : Rd) (n : Nat) : (reOf r).take n = ((r.take n).1, reOf (r.take n).2) := by
  unfold Re.take Rd.take reOf
  cases hc : r.cut with
  | true => simp [Re.fail]
  | false =>
    by_cases hs : r.bs.length < n
    · simp [hs, Re.fail]
    · simp [hs]
theorem re_one (r : Rd) : (reOf r).one = (r.one.1, reOf r.one.2) := by unfold Re.one Rd.one; rw [re_take]
theorem re_int (r : Rd) : (reOf r).int = (r.int.1, reOf r.int.2) := by unfold Re.int Rd.int; rw [re_take]
theorem re_str (r : Rd) : (reOf r).str = (r.str.1, reOf r.str.2) := by
  unfold Re.str Rd.str
  rw [re_one]
  simp only [re_take]
  congr 1
  unfold reOf
  cases (r.one.2.take r.one.1.toNat).2.cut <;> simp
theorem re_ints : ∀ (n : Nat) (r : Rd), Re.ints n (reOf r) = ((Rd.ints n r).1, reOf (Rd.ints n r).2)
  | 0, r => rfl
  | n + 1, r => by
    rw [Re.ints, re_int]
    simp only [re_ints n r.int.2]
    rfl
theorem re_end (r : Rd) : planEnd (reOf r) = endE r := by
  unfold planEnd reOf endE
  cases r.cut <;> simp
end Go.Proofs.YtehkgcmdndehaaaDoor

namespace Go.Proofs.YtehkgcmdndehaaaDoor
set_option linter.unusedSimpArgs false
set_option linter.unusedVariables false
open Go.RowKit

abbrev hexs : ByteArray := ⟨#[48, 49, 50, 51, 52, 53, 54, 55, 56, 57, 97, 98, 99, 100, 101, 102]⟩
theorem hex_at (d : Nat) (hd : d < 16) : hexs.extract d (d + 1) = strB [dig d] := by
  have h : ∀ d : Fin 16, (hexs.extract d.1 (d.1 + 1)).data.toList = [dig d.1] := by decide +kernel
  have := h ⟨d, hd⟩
  apply ByteArray.ext
  show _ = [dig d].toArray
  rw [← this]
theorem and15i (n : Int) : bits .and .i64 n 15 = n % 16 := by
  have h15 : (BitVec.ofInt 64 15).toNat = 2 ^ 4 - 1 := by decide
  have key : (BitVec.ofInt 64 n &&& BitVec.ofInt 64 15).toNat = (n % ((2 ^ 64 : Nat) : Int)).toNat % 2 ^ 4 := by
    rw [BitVec.toNat_and, BitVec.toNat_ofInt, h15, Nat.and_two_pow_sub_one_eq_mod]
  show IntKind.i64.wrap ((BitVec.ofInt 64 n &&& BitVec.ofInt 64 15).toNat : Nat) = n % 16
  rw [key, IntKind.wrap_i64]
  omega
theorem digI (n g : Nat) : bits .and .i64 ((n : Int) / 2 ^ (4 * g)) 15 = ((n / 16 ^ g % 16 : Nat) : Int) := by
  rw [and15i]
  have h : (2 : Nat) ^ (4 * g) = 16 ^ g := by rw [Nat.pow_mul]
  rw [← h]
  simp
theorem lows_get : ∀ m k n, k < m → (lows m n)[k]? = some (dig (n / 16 ^ (m - 1 - k) % 16))
  | 0, k, n, h => absurd h (by omega)
  | m + 1, 0, n, h => by simp [lows]
  | m + 1, k + 1, n, h => by
    have := lows_get m k n (by omega)
    rw [show m + 1 - 1 - (k + 1) = m - 1 - k by omega]
    simpa [lows] using this
set_option maxRecDepth 100000 in
theorem num_ref (n : Nat) (hn : n < 2 ^ 63) (w : World) :
    Calls Tryd.prog 9 #[.int .i64 n] w fun e w' => e = .returned (.string (strB (lows 16 n))) ∧ Below w.heap.size w w' := by
  have H := Lib.hid hn
  clear hn
  go_enter Tryd.func9, Tryd.ntmps9
  go_wp2
  go_loopg [4, 5, 6] 16 (fun g s4 s5 s6 wr => ∃ k : Nat, k + g = 16 ∧ s5 = .int .i64 ((g : Int) - 1) ∧ s4 = .string (strB ((lows 16 n).take k)) ∧ wr = w)
  case atStart => exact ⟨0, rfl, rfl, rfl, rfl⟩
  case round =>
    obtain ⟨k, hkg, rfl, rfl, rfl⟩ := hrel
    cases gk with
    | zero =>
      have hk : k = 16 := by omega
      subst hk
      go_wp2
      go_ret
      exact ⟨by rw [List.take_of_length_le (by rw [lows_length]; omega)]; rfl, Below.refl _ _⟩
    | succ g =>
      have hg : g < 16 := by omega
      obtain ⟨d, hd0⟩ : ∃ d, d = n / 16 ^ g % 16 := ⟨_, rfl⟩
      have hb : bits .and .i64 ((n : Int) / 2 ^ (4 * g)) 15 = (d : Int) := by rw [hd0]; exact digI n g
      have hd : d < 16 := by rw [hd0]; exact Nat.mod_lt _ (by omega)
      have hx : hexs.extract d (d + 1) = strB [dig d] := hex_at d hd
      have hsz : (strB ((lows 16 n).take k)).size ≤ 16 := by show ((lows 16 n).take k).toArray.size ≤ 16; simp [lows_length]; omega
      have hs1 : (strB [dig d]).size = 1 := rfl
      have HS : Hid (strB ((lows 16 n).take k) ++ strB [dig d] = strB ((lows 16 n).take (k + 1))) := Lib.hid (by rw [← strB_append, List.take_add_one, lows_get 16 k n (by omega), show 16 - 1 - k = g by omega, ← hd0]; rfl)
      clear hd0
      generalize strB ((lows 16 n).take k) = sv at *
      go_upto_region 7 with (fail)
      go_wp2
      go_roundg g
      case measure => omega
      case rel => exact ⟨k + 1, by omega, by first | rfl | go_num, by rw [HS.out], rfl⟩
end Go.Proofs.YtehkgcmdndehaaaDoor

namespace Go.Proofs.YtehkgcmdndehaaaDoor
set_option linter.unusedSimpArgs false
set_option linter.unusedVariables false
open Go.RowKit

theorem dig_lt {a b : Nat} (ha : a < 16) (hb : b < 16) : (dig a < dig b ↔ a < b) ∧ (dig a = dig b ↔ a = b) := by
  have h : ∀ a b : Fin 16, (dig a.1 < dig b.1 ↔ a.1 < b.1) ∧ (dig a.1 = dig b.1 ↔ a.1 = b.1) := by decide +kernel
  exact h ⟨a, ha⟩ ⟨b, hb⟩
/-- The number of the last k digits. -/
theorem low_split (k n : Nat) : n % 16 ^ (k + 1) = (n / 16 ^ k % 16) * 16 ^ k + n % 16 ^ k := by
  rw [Nat.pow_succ, Nat.mod_mul, Nat.mul_comm, Nat.add_comm]
theorem lows_inj : ∀ k a b, lows k a = lows k b ↔ a % 16 ^ k = b % 16 ^ k
  | 0, a, b => by simp [lows, Nat.mod_one]
  | k + 1, a, b => by
    have h1 := Nat.mod_lt (a / 16 ^ k) (show 16 > 0 by omega)
    have h2 := Nat.mod_lt (b / 16 ^ k) (show 16 > 0 by omega)
    have h3 := Nat.mod_lt a (show 16 ^ k > 0 from Nat.pow_pos (by omega))
    have h4 := Nat.mod_lt b (show 16 ^ k > 0 from Nat.pow_pos (by omega))
    rw [low_split k a, low_split k b]
    show dig _ :: lows k a = dig _ :: lows k b ↔ _
    rw [List.cons.injEq, (dig_lt h1 h2).2, lows_inj k a b]
    generalize a / 16 ^ k % 16 = x at *
    generalize b / 16 ^ k % 16 = y at *
    generalize a % 16 ^ k = u at *
    generalize b % 16 ^ k = v at *
    generalize 16 ^ k = m at *
    constructor
    · rintro ⟨rfl, rfl⟩; rfl
    · intro h
      have hx : x = y := by
        rcases Nat.lt_trichotomy x y with hl | he | hl
        · exfalso
          have : (x + 1) * m ≤ y * m := Nat.mul_le_mul_right m hl
          rw [Nat.add_mul, Nat.one_mul] at this
          omega
        · exact he
        · exfalso
          have : (y + 1) * m ≤ x * m := Nat.mul_le_mul_right m hl
          rw [Nat.add_mul, Nat.one_mul] at this
          omega
      subst hx
      exact ⟨rfl, by omega⟩
theorem lows_less : ∀ k a b, Op.bytesLess (lows k a) (lows k b) = decide (a % 16 ^ k < b % 16 ^ k)
  | 0, a, b => by simp [lows, Op.bytesLess, Nat.mod_one]
  | k + 1, a, b => by
    have h1 := Nat.mod_lt (a / 16 ^ k) (show 16 > 0 by omega)
    have h2 := Nat.mod_lt (b / 16 ^ k) (show 16 > 0 by omega)
    have h3 := Nat.mod_lt a (show 16 ^ k > 0 from Nat.pow_pos (by omega))
    have h4 := Nat.mod_lt b (show 16 ^ k > 0 from Nat.pow_pos (by omega))
    rw [low_split k a, low_split k b]
    show (decide (dig _ < dig _) || (dig _ == dig _ && Op.bytesLess (lows k a) (lows k b))) = _
    rw [lows_less k a b]
    have e1 := (dig_lt h1 h2).1
    have e2 := (dig_lt h1 h2).2
    rw [Bool.eq_iff_iff]
    simp only [Bool.or_eq_true, Bool.and_eq_true, decide_eq_true_eq, beq_iff_eq, e1, e2]
    clear e1 e2
    generalize a / 16 ^ k % 16 = x at *
    generalize b / 16 ^ k % 16 = y at *
    generalize a % 16 ^ k = u at *
    generalize b % 16 ^ k = v at *
    generalize 16 ^ k = m at *
    rcases Nat.lt_trichotomy x y with hl | he | hl
    · have : (x + 1) * m ≤ y * m := Nat.mul_le_mul_right m hl
      rw [Nat.add_mul, Nat.one_mul] at this
      constructor
      · intro _; omega
      · intro _; exact .inl hl
    · subst he
      constructor
      · rintro (h | ⟨_, h⟩)
        · omega
        · omega
      · intro h; exact .inr ⟨rfl, by omega⟩
    · have : (y + 1) * m ≤ x * m := Nat.mul_le_mul_right m hl
      rw [Nat.add_mul, Nat.one_mul] at this
      constructor
      · rintro (h | ⟨h, _⟩)
        · omega
        · omega
      · intro h; omega
end Go.Proofs.YtehkgcmdndehaaaDoor

