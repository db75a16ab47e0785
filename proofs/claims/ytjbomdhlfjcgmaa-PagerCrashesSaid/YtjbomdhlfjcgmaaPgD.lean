/-
  Disks and pagers as plain data. No program in sight.
-/
import Derived.Test.YtjbomdhlfjcgmaaRdD
namespace Go.Proofs.Ytjbomdhlfjcgmaa
set_option linter.unusedSimpArgs false
set_option linter.unusedVariables false
open Go.RowKit

def zerosB (n : Nat) : List UInt8 := List.replicate n 0
theorem zerosB_length (n : Nat) : (zerosB n).length = n := by simp [zerosB]

/-- A number's bytes, the great ones first. -/
def beB : Nat → Nat → List UInt8
  | 0, _ => []
  | s + 1, n => beB s (n / 256) ++ [UInt8.ofNat (n % 256)]
theorem beB_length : ∀ (s n : Nat), (beB s n).length = s
  | 0, _ => rfl
  | s + 1, n => by simp [beB, beB_length s]
theorem decNat_beB : ∀ (s n : Nat), decNat (beB s n) = n % 256 ^ s
  | 0, n => by simp [beB, decNat, Nat.mod_one]
  | s + 1, n => by
    rw [beB, decNat_snoc, decNat_beB s, Nat.pow_succ, Nat.mul_comm (256 ^ s) 256, Nat.mod_mul, UInt8.toNat_ofNat']
    have : n % 256 % 2 ^ 8 = n % 256 := Nat.mod_eq_of_lt (by omega)
    omega
theorem beB_get : ∀ (s n j : Nat), j < s → (beB s n)[j]? = some (UInt8.ofNat (n / 2 ^ (8 * (s - 1 - j)) % 256))
  | 0, _, _, h => by omega
  | s + 1, n, j, h => by
    rw [beB]
    by_cases hj : j < s
    · rw [List.getElem?_append_left (by rw [beB_length]; exact hj), beB_get s (n / 256) j hj]
      congr 3
      rw [Nat.div_div_eq_div_mul]
      congr 1
      rw [show 8 * (s + 1 - 1 - j) = 8 * (s - 1 - j) + 8 by omega, Nat.pow_add]
      omega
    · obtain rfl : j = s := by omega
      rw [List.getElem?_append_right (by rw [beB_length]; omega), beB_length]
      simp

/-- How many numbers below N have p. -/
def cnt (p : Nat → Bool) : Nat → Nat
  | 0 => 0
  | n + 1 => cnt p n + if p n then 1 else 0
theorem cnt_le (p : Nat → Bool) : ∀ N, cnt p N ≤ N
  | 0 => Nat.le_refl _
  | n + 1 => by have := cnt_le p n; simp only [cnt]; split <;> omega
theorem cnt_congr {p q : Nat → Bool} : ∀ (N : Nat), (∀ n, n < N → p n = q n) → cnt p N = cnt q N
  | 0, _ => rfl
  | n + 1, h => by simp only [cnt]; rw [cnt_congr n (fun k hk => h k (by omega)), h n (by omega)]
theorem cnt_none {p : Nat → Bool} : ∀ (N : Nat), (∀ n, n < N → p n = false) → cnt p N = 0
  | 0, _ => rfl
  | n + 1, h => by simp only [cnt]; rw [cnt_none n (fun k hk => h k (by omega)), h n (by omega)]; rfl
theorem cnt_set {p q : Nat → Bool} {m : Nat} (hm : p m = false) (hq : q m = true) (ho : ∀ n, n ≠ m → q n = p n) : ∀ (N : Nat), cnt q N = cnt p N + if m < N then 1 else 0
  | 0 => by simp [cnt]
  | n + 1 => by
    simp only [cnt]
    rw [cnt_set hm hq ho n]
    by_cases h : n = m
    · subst h; rw [hm, hq]; simp
    · rw [ho n h]
      by_cases h2 : m < n
      · have h3 : m < n + 1 := by omega
        simp only [if_pos h2, if_pos h3]; omega
      · have h3 : ¬ m < n + 1 := by omega
        simp only [if_neg h2, if_neg h3]; omega
theorem cnt_mono {p q : Nat → Bool} (h : ∀ n, p n = true → q n = true) : ∀ (N : Nat), cnt p N ≤ cnt q N
  | 0 => Nat.le_refl _
  | n + 1 => by
    have := cnt_mono h n
    simp only [cnt]
    cases hp : p n
    · simp; omega
    · rw [h n hp]; simp; omega
theorem cnt_or {p q r : Nat → Bool} (h : ∀ n, r n = (p n || q n)) (hd : ∀ n, p n = true → q n = false) : ∀ (N : Nat), cnt r N = cnt p N + cnt q N
  | 0 => rfl
  | n + 1 => by
    simp only [cnt]
    rw [cnt_or h hd n, h n]
    cases hp : p n
    · cases hq : q n <;> simp <;> omega
    · rw [hd n hp]; simp; omega
/-- Where fewer than there are have p, one has not. -/
theorem cnt_free {p : Nat → Bool} {m : Nat} (hlow : ∀ n, n < m → p n = false) : ∀ (N : Nat), cnt p N < N - m → ∃ n, m ≤ n ∧ n < N ∧ p n = false
  | 0, h => by omega
  | n + 1, h => by
    cases hp : p n
    · by_cases hn : m ≤ n
      · exact ⟨n, hn, by omega, hp⟩
      · omega
    · simp only [cnt, hp, if_true] at h
      obtain ⟨k, h1, h2, h3⟩ := cnt_free hlow n (by omega)
      exact ⟨k, h1, by omega, h3⟩
theorem cnt_low {p : Nat → Bool} {m : Nat} (hlow : ∀ n, n < m → p n = false) : ∀ (N : Nat), cnt p N ≤ N - m
  | 0 => by simp [cnt]
  | n + 1 => by
    have := cnt_low hlow n
    simp only [cnt]
    cases hp : p n
    · simp; omega
    · by_cases hn : n < m
      · rw [hlow n hn] at hp; cases hp
      · simp; omega

/-! Bits. -/

/-- The bits of p below k, as a number. -/
def bitsTo (p : Nat → Bool) : Nat → Nat
  | 0 => 0
  | k + 1 => bitsTo p k + if p k then 2 ^ k else 0
theorem bitsTo_lt (p : Nat → Bool) : ∀ k, bitsTo p k < 2 ^ k
  | 0 => by simp [bitsTo]
  | k + 1 => by have := bitsTo_lt p k; simp only [bitsTo, Nat.pow_succ]; split <;> omega
theorem bitsTo_bit (p : Nat → Bool) : ∀ k i, bitsTo p k / 2 ^ i % 2 = if i < k ∧ p i = true then 1 else 0
  | 0, i => by simp [bitsTo]
  | k + 1, i => by
    have hlt := bitsTo_lt p k
    simp only [bitsTo]
    by_cases hik : i < k
    · have e : ((if p k then 2 ^ k else 0) : Nat) = 2 ^ i * (2 * (if p k then 2 ^ (k - i - 1) else 0)) := by
        split
        · rw [← Nat.mul_assoc, ← Nat.pow_succ, ← Nat.pow_add]; congr 1; omega
        · rfl
      rw [e, Nat.add_mul_div_left _ _ (Nat.two_pow_pos i), Nat.add_mul_mod_self_left, bitsTo_bit p k i]
      simp only [hik, show i < k + 1 by omega, true_and]
    · by_cases e : i = k
      · subst e
        cases hp : p i
        · simp [Nat.div_eq_of_lt hlt]
        · simp only [if_true]
          rw [Nat.add_div_right _ (Nat.two_pow_pos i), Nat.div_eq_of_lt hlt]
          simp
      · have h2 : bitsTo p k + (if p k then 2 ^ k else 0) < 2 ^ i := by
          have h3 : bitsTo p (k + 1) < 2 ^ (k + 1) := bitsTo_lt p (k + 1)
          exact Nat.lt_of_lt_of_le h3 (Nat.pow_le_pow_right (by omega) (by omega))
        rw [Nat.div_eq_of_lt h2, if_neg (by omega)]
theorem bitsTo_congr {p q : Nat → Bool} : ∀ k, (∀ i, i < k → p i = q i) → bitsTo p k = bitsTo q k
  | 0, _ => rfl
  | k + 1, h => by simp only [bitsTo]; rw [bitsTo_congr k (fun i hi => h i (by omega)), h k (by omega)]
theorem bitsTo_or (p : Nat → Bool) (k : Nat) (h : p k = true) : bitsTo p k ||| 2 ^ k = bitsTo p (k + 1) := by
  simp only [bitsTo, h, if_true]
  have := Nat.two_pow_add_eq_or_of_lt (bitsTo_lt p k) 1
  rw [Nat.mul_one] at this
  rw [Nat.or_comm, ← this, Nat.add_comm]
theorem bitsTo_skip (p : Nat → Bool) (k : Nat) (h : p k = false) : bitsTo p (k + 1) = bitsTo p k := by simp [bitsTo, h]

/-- 512 bytes that tell p of 4096 numbers, the first m of them. -/
def bitsB (p : Nat → Bool) (m : Nat) : List UInt8 := (List.range 512).map fun j => UInt8.ofNat (bitsTo (fun k => p (8 * j + k)) (min 8 (m - 8 * j)))
theorem bitsB_length (p : Nat → Bool) (m : Nat) : (bitsB p m).length = 512 := by simp [bitsB]
theorem bitsB_get (p : Nat → Bool) (m j : Nat) (hj : j < 512) : (bitsB p m)[j]? = some (UInt8.ofNat (bitsTo (fun k => p (8 * j + k)) (min 8 (m - 8 * j)))) := by
  simp [bitsB, hj]
theorem bitsB_zero (p : Nat → Bool) : bitsB p 0 = zerosB 512 := by
  apply List.ext_getElem?
  intro j
  by_cases hj : j < 512
  · rw [bitsB_get p 0 j hj, show min 8 (0 - 8 * j) = 0 by omega, zerosB, List.getElem?_replicate, if_pos hj]
    rfl
  · rw [List.getElem?_eq_none (by rw [bitsB_length]; omega), List.getElem?_eq_none (by rw [zerosB_length]; omega)]
theorem bitsB_skip (p : Nat → Bool) (m : Nat) (h : p m = false) : bitsB p (m + 1) = bitsB p m := by
  apply List.ext_getElem?
  intro j
  by_cases hj : j < 512
  · rw [bitsB_get p _ j hj, bitsB_get p _ j hj]
    congr 2
    by_cases h1 : 8 * j ≤ m ∧ m < 8 * j + 8
    · rw [show min 8 (m + 1 - 8 * j) = (m - 8 * j) + 1 by omega, show min 8 (m - 8 * j) = m - 8 * j by omega, bitsTo_skip]
      rw [show 8 * j + (m - 8 * j) = m by omega]; exact h
    · rw [show min 8 (m + 1 - 8 * j) = min 8 (m - 8 * j) by omega]
  · rw [List.getElem?_eq_none (by rw [bitsB_length]; omega), List.getElem?_eq_none (by rw [bitsB_length]; omega)]
theorem bitsB_old (p : Nat → Bool) (m : Nat) (hm : m < 4096) : (bitsB p m)[m / 8]? = some (UInt8.ofNat (bitsTo (fun k => p (8 * (m / 8) + k)) (m % 8))) := by
  rw [bitsB_get p m _ (by omega)]
  congr 3
  omega
theorem bitsB_put (p : Nat → Bool) (m : Nat) (hm : m < 4096) (h : p m = true) :
    bitsB p (m + 1) = (bitsB p m).set (m / 8) (UInt8.ofNat (bitsTo (fun k => p (8 * (m / 8) + k)) (m % 8) ||| 2 ^ (m % 8))) := by
  rw [bitsTo_or _ _ (by rw [show 8 * (m / 8) + m % 8 = m by omega]; exact h)]
  apply List.ext_getElem?
  intro j
  by_cases hj : j < 512
  · rw [bitsB_get p _ j hj, List.getElem?_set]
    by_cases e : m / 8 = j
    · rw [if_pos e, if_pos (by rw [bitsB_length]; omega)]
      subst e
      congr 3
      omega
    · rw [if_neg e, bitsB_get p _ j hj]
      congr 3
      omega
  · rw [List.getElem?_eq_none (by rw [bitsB_length]; omega), List.getElem?_eq_none (by rw [List.length_set, bitsB_length]; omega)]
/-- What is read of them. -/
theorem bitsB_read (p : Nat → Bool) (m : Nat) (hm : m < 4096) : ∃ x, (bitsB p 4096)[m / 8]? = some x ∧ x.toNat / 2 ^ (m % 8) % 2 = if p m then 1 else 0 := by
  refine ⟨_, bitsB_get p 4096 (m / 8) (by omega), ?_⟩
  rw [show min 8 (4096 - 8 * (m / 8)) = 8 by omega, UInt8.toNat_ofNat', Nat.mod_eq_of_lt (bitsTo_lt _ 8), bitsTo_bit]
  rw [show 8 * (m / 8) + m % 8 = m by omega]
  cases p m
  · simp
  · rw [if_pos ⟨by omega, rfl⟩]; rfl

/-- One number's bytes turned. -/
def updN {α : Type} (g : Nat → Option α) (m : Nat) (v : Option α) : Nat → Option α := fun k => if k = m then v else g k
theorem updN_same {α : Type} (g : Nat → Option α) (m : Nat) (v : Option α) : updN g m v m = v := if_pos rfl
theorem updN_other {α : Type} (g : Nat → Option α) (m : Nat) (v : Option α) {k : Nat} (h : k ≠ m) : updN g m v k = g k := if_neg h

/-! Disks. -/

/-- A disk: how many blocks; what was written; how many writes were done; how many are left (-1: no end); whether the power is gone. -/
structure DiskS where
  blocks : Nat
  put : Nat → Option (List UInt8)
  writes : Nat
  left : Int
  dead : Bool

def DiskS.block (D : DiskS) (n : Nat) : List UInt8 := (D.put n).getD (zerosB 512)
def DiskS.new (n : Nat) : DiskS := ⟨n, fun _ => none, 0, -1, false⟩
def DiskS.done (D : DiskS) (n : Nat) (b : List UInt8) : DiskS :=
  { D with put := updN D.put n (some b), writes := D.writes + 1, left := if 0 < D.left then D.left - 1 else D.left }
/-- A write: the disk behind it, the error. -/
def DiskS.write (D : DiskS) (n : Int) (b : List UInt8) : DiskS × Int :=
  if D.dead = true then (D, 12)
  else if n < 0 ∨ (D.blocks : Int) ≤ n ∨ b.length ≠ 512 then (D, 1)
  else if D.left = 0 then ({ D with dead := true }, 12)
  else (D.done n.toNat b, 0)
def DiskS.cut (D : DiskS) (n : Int) : DiskS := { D with left := max n (-1) }
def DiskS.start (D : DiskS) : DiskS := { D with dead := false, left := -1 }
/-- What disks are. -/
structure DiskWf (D : DiskS) : Prop where
  lo : 1 ≤ D.blocks
  hi : D.blocks ≤ 16384
  len : ∀ n b, D.put n = some b → n < D.blocks ∧ b.length = 512
  left : -1 ≤ D.left
  left' : D.left < 9223372036854775808

theorem DiskS.block_length {D : DiskS} (h : DiskWf D) (n : Nat) : (D.block n).length = 512 := by
  unfold DiskS.block
  cases hb : D.put n with
  | none => exact zerosB_length 512
  | some b => exact (h.len n b hb).2
theorem DiskS.block_done (D : DiskS) (n k : Nat) (b : List UInt8) : (D.done n b).block k = if k = n then b else D.block k := by
  unfold DiskS.block DiskS.done
  by_cases h : k = n
  · subst h; simp only [if_true, updN_same]; rfl
  · simp only [if_neg h, updN_other _ _ _ h]
/-- Writes, one behind the other, till one fails. -/
def DiskS.all (D : DiskS) : List (Nat × List UInt8) → DiskS × Int
  | [] => (D, 0)
  | x :: r => if (D.write x.1 x.2).2 = 0 then (D.write x.1 x.2).1.all r else D.write x.1 x.2

/-! What lies on a pager's disk. -/

/-- What is committed: how many commits; the root; the pages. -/
structure Comm where
  seq : Nat
  root : List UInt8
  pages : Nat → Option (List UInt8)
def Comm.new : Comm := ⟨0, [], fun _ => none⟩
def Comm.has (C : Comm) (n : Nat) : Bool := (C.pages n).isSome

def mapsN (blocks : Nat) : Nat := (blocks + 4095) / 4096
def firstN (blocks : Nat) : Nat := 2 + 2 * mapsN blocks
/-- "tollroot" -/
def wordB : List UInt8 := [116, 111, 108, 108, 114, 111, 111, 116]
def padB (b : List UInt8) : List UInt8 := b ++ zerosB (512 - b.length)
def pageB (b : List UInt8) : List UInt8 := padB (beB 2 b.length ++ b)
def slotB (seq : Nat) (root : List UInt8) : List UInt8 := padB (beB 1 root.length |> fun l => wordB ++ beB 8 seq ++ l ++ root)
def mapB (p : Nat → Bool) (i : Nat) : List UInt8 := bitsB (fun k => p (i * 4096 + k)) 4096

/-- A slot's number. -/
def slotSeq (b : List UInt8) : Nat := decNat ((b.drop 8).take 8)
/-- A slot that is not the newest: its word is none, or its number is below. -/
def SlotLow (b : List UInt8) (m : Nat) : Prop := slotSeq b < 9223372036854775808 ∧ (b.take 8 ≠ wordB ∨ slotSeq b < m)

structure DiskOk (D : DiskS) (C : Comm) : Prop where
  wf : DiskWf D
  lo : 64 ≤ D.blocks
  seq : C.seq < 1000000000000000000
  root : C.root.length ≤ 64
  pages : ∀ n b, C.pages n = some b → firstN D.blocks ≤ n ∧ n < D.blocks ∧ b.length ≤ 496 ∧ D.block n = pageB b
  zero : C.seq = 0 → C.root = [] ∧ ∀ n, C.pages n = none
  slot : 0 < C.seq → D.block (C.seq % 2) = slotB C.seq C.root
  maps : 0 < C.seq → ∀ i, i < mapsN D.blocks → D.block (2 + C.seq % 2 * mapsN D.blocks + i) = mapB C.has i
  other : ∀ s, s < 2 → (0 < C.seq → s ≠ C.seq % 2) → SlotLow (D.block s) C.seq

theorem maps_pos {n : Nat} (h : 1 ≤ n) : 1 ≤ mapsN n := by unfold mapsN; omega
theorem maps_le {n : Nat} (h : n ≤ 16384) : mapsN n ≤ 4 := by unfold mapsN; omega
theorem padB_length {b : List UInt8} (h : b.length ≤ 512) : (padB b).length = 512 := by unfold padB; rw [List.length_append, zerosB_length]; omega
theorem pageB_length {b : List UInt8} (h : b.length ≤ 496) : (pageB b).length = 512 := padB_length (by rw [List.length_append, beB_length]; omega)
theorem slotB_length {s : Nat} {r : List UInt8} (h : r.length ≤ 64) : (slotB s r).length = 512 := padB_length (by simp [beB_length, wordB]; omega)

theorem slotB_word (s : Nat) (r : List UInt8) : (slotB s r).take 8 = wordB := by
  unfold slotB padB
  simp only [List.append_assoc]
  rw [List.take_append_of_le_length (by simp [wordB])]
  rfl
theorem slotB_seq (s : Nat) (r : List UInt8) (hs : s < 1000000000000000000) : slotSeq (slotB s r) = s := by
  unfold slotSeq slotB padB
  simp only [List.append_assoc]
  rw [List.drop_append_of_le_length (by simp [wordB]), show wordB.drop 8 = [] from rfl, List.nil_append, List.take_append_of_le_length (by rw [beB_length]; omega),
    List.take_of_length_le (by rw [beB_length]; omega), decNat_beB]
  exact Nat.mod_eq_of_lt (by omega)
theorem slotB_len (s : Nat) (r : List UInt8) (hr : r.length ≤ 64) : (slotB s r)[16]? = some (UInt8.ofNat r.length) := by
  unfold slotB padB
  simp only [List.append_assoc]
  rw [List.getElem?_append_right (by simp [wordB]), List.getElem?_append_right (by rw [beB_length]; simp [wordB]), beB_length]
  have e : r.length % 256 = r.length := Nat.mod_eq_of_lt (by omega)
  simp [wordB, beB, e]
theorem slotB_root (s : Nat) (r : List UInt8) : ((slotB s r).drop 17).take r.length = r := by
  have h : (wordB ++ beB 8 s ++ beB 1 r.length).length = 17 := by simp [beB_length, wordB]
  unfold slotB padB
  simp only []
  rw [List.append_assoc, List.drop_append_of_le_length (by rw [h]; omega), List.drop_of_length_le (by rw [h]; omega), List.nil_append, List.take_append_of_le_length (Nat.le_refl _), List.take_of_length_le (Nat.le_refl _)]
theorem pageB_len (b : List UInt8) (hb : b.length ≤ 496) : decNat ((pageB b).take 2) = b.length := by
  unfold pageB padB
  rw [List.append_assoc, List.take_append_of_le_length (by rw [beB_length]; omega), List.take_of_length_le (by rw [beB_length]; omega), decNat_beB]
  exact Nat.mod_eq_of_lt (by omega)
theorem pageB_body (b : List UInt8) : ((pageB b).drop 2).take b.length = b := by
  unfold pageB padB
  rw [List.append_assoc, List.drop_append_of_le_length (by rw [beB_length]; omega), List.drop_of_length_le (by rw [beB_length]; omega), List.nil_append, List.take_append_of_le_length (Nat.le_refl _), List.take_of_length_le (Nat.le_refl _)]
end Go.Proofs.Ytjbomdhlfjcgmaa
