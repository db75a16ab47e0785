/-
  formatBits at base 16.
-/
import Derived.Test.YtehkgcmdndehaaaDoorNumR
import Derived.Test.YtehkgcmdndehaaaDoorBytes
import Derived.Test.YtehkgcmdndehaaaDoorKit
import Derived.Deep.DeepCutAuto
import Derived.Deep.CutBlock
import Derived.Laws.Bits64b
import Derived.Laws.Slices
namespace Go.Proofs.YtehkgcmdndehaaaDoor
set_option linter.unusedSimpArgs false
set_option linter.unusedVariables false
open Go.RowKit

def dig (d : Nat) : UInt8 := if d < 10 then UInt8.ofNat (48 + d) else UInt8.ofNat (87 + d)
abbrev digs : ByteArray := ⟨#[48, 49, 50, 51, 52, 53, 54, 55, 56, 57, 97, 98, 99, 100, 101, 102, 103, 104, 105, 106, 107, 108, 109, 110, 111, 112, 113, 114, 115, 116, 117, 118, 119, 120, 121, 122]⟩
theorem dig_at (d : Nat) (hd : d < 16) (h : d < digs.size) : digs[d]'h = dig d := by
  match d, hd with
  | 0, _ => rfl
  | 1, _ => rfl
  | 2, _ => rfl
  | 3, _ => rfl
  | 4, _ => rfl
  | 5, _ => rfl
  | 6, _ => rfl
  | 7, _ => rfl
  | 8, _ => rfl
  | 9, _ => rfl
  | 10, _ => rfl
  | 11, _ => rfl
  | 12, _ => rfl
  | 13, _ => rfl
  | 14, _ => rfl
  | 15, _ => rfl
  | d + 16, h => exact absurd h (by omega)
theorem drop_set_self : ∀ (zs : List UInt8) (p : Nat) (x : UInt8), p < zs.length → (zs.set p x).drop p = x :: zs.drop (p + 1)
  | [], p, x, h => absurd h (by simp)
  | a :: r, 0, x, h => rfl
  | a :: r, p + 1, x, h => by simpa using drop_set_self r p x (by simpa using h)
theorem and15 (u : Nat) (h : u < 18446744073709551616) : bits .and .u64 (u : Int) 15 = ((u % 16 : Nat) : Int) := by
  have h1 := bits_and_u64_nat u 15 h (by decide)
  have h2 : u &&& 15 = u % 16 := Nat.and_two_pow_sub_one_eq_mod u 4
  rw [h2] at h1
  exact h1
/-- The last k hex digits. -/
def lows : Nat → Nat → List UInt8
  | 0, _ => []
  | k + 1, n => dig (n / 16 ^ k % 16) :: lows k n
/-- The array's 65 bytes. -/
def ArrAt (w : World) (ab : Nat) (zs : List UInt8) : Prop := w.ownsRow ab 139 1 (.slice (some ⟨ab, 0, none⟩) 65 65) 65 (bcells zs)
set_option maxRecDepth 100000 in
theorem arr_new (w : World) : ArrAt (w.alloc (.cells Tryd.zeroCells139 139)) w.heap.size (List.replicate 65 0) :=
  ⟨by kernel_rfl, .inr ⟨w.heap.size, 65, Tryd.zeroCells139, rfl, Nat.le_refl _, heap_alloc_new _ _, Nat.le_refl _, by decide, by kernel_rfl, by kernel_rfl⟩⟩
theorem ArrAt.set {w : World} {ab : Nat} {zs : List UInt8} (h : ArrAt w ab zs) (i : Nat) (x : UInt8) : ArrAt (w.setCell ⟨ab, i, none⟩ (.int .u8 (x.toNat : Int))) ab (zs.set i x) := by
  have h1 := (World.ownsRow.stored h i (.int .u8 (x.toNat : Int))).1
  unfold ArrAt
  rw [show bcells (zs.set i x) = (bcells zs).set i (.int .u8 (x.toNat : Int)) by simp only [bcells, List.map_set]]
  exact h1
theorem ArrAt.at {w : World} {ab i : Nat} {zs : List UInt8} (h : ArrAt w ab zs) (hi : i < 65) : (∃ v, w.cell? ⟨ab, i, none⟩ = some v) ∧ w.frozen? ⟨ab, i, none⟩ = false := by
  rcases h.2 with ⟨h', _⟩ | ⟨g', c', cur, h', h1, hg, _, _, hs, _⟩
  · cases h'
  · cases h'
    refine ⟨⟨cur[i]'(by omega), ?_⟩, frozen_of_row _ _ _ _ _ hg⟩
    rw [cell_of_row _ _ _ _ _ _ hg]
    simp
theorem ArrAt.cell {w : World} {ab i : Nat} {zs : List UInt8} {x : UInt8} (h : ArrAt w ab zs) (hx : zs[i]? = some x) : w.cell? ⟨ab, i, none⟩ = some (.int .u8 (x.toNat : Int)) := by
  rcases h.2 with ⟨h', _⟩ | ⟨g', c', cur, h', h1, hg, _, _, hs, ht⟩
  · cases h'
  · cases h'
    rw [cell_of_row _ _ _ _ _ _ hg]
    have e : (bcells zs)[i]? = some (.int .u8 (x.toNat : Int)) := by simp [bcells, hx]
    rw [← ht, List.getElem?_take] at e
    split at e
    · simpa using e
    · cases e
theorem ArrAt.lt {w : World} {ab : Nat} {zs : List UInt8} (h : ArrAt w ab zs) : ab < w.heap.size := by
  rcases h.2 with ⟨h', _⟩ | ⟨g', c', cur, h', h1, hg, _⟩
  · cases h'
  · cases h'
    exact (Array.getElem?_eq_some_iff.1 hg).1
theorem ArrAt.reads {w : World} {ab p : Nat} {zs : List UInt8} (h : ArrAt w ab zs) (hp : p ≤ 65) (hl : zs.length = 65) : Reads w (.slice (some ⟨ab, p, none⟩) (65 - p) (65 - p)) (zs.drop p) :=
  .inr ⟨ab, p, 65 - p, by rw [List.length_drop, hl], by rw [List.length_drop, hl]; exact Nat.le_refl _, h.lt, fun i x hi => h.cell (by rw [← hi, List.getElem?_drop])⟩
set_option maxHeartbeats 1600000 in
set_option maxRecDepth 100000 in
theorem fmt16 (n K : Nat) (hn : n < 2 ^ 64) (hK : K ≤ 15) (hlo : ∀ k, k < K → 16 ≤ n / 16 ^ k) (hhi : n / 16 ^ K < 16) (w : World) (ht : w.cell? ⟨3, 15, none⟩ = some (.int .u8 4)) :
    Calls Tryd.prog 70 #[.slice none 0 0, .int .u64 n, .int .i64 16, .bool false, .bool false] w fun e w' => e = .returned (.tuple #[.slice none 0 0, .string (strB (lows (K + 1) n))]) ∧ Below w.heap.size w w' := by
  have H := Lib.hid (And.intro hn (And.intro hlo hhi))
  clear hn hlo hhi
  go_enter Tryd.func70, Tryd.ntmps70
  go_upto_region 11 with (first
    | (go_at_call 84; refine (pow16 _).mono ?_; rintro e w' ⟨rfl, rfl⟩)
    | (go_at_call 85; refine (tz16 _ (by rw [World.cell?_alloc_past _ _ _ (World.block_lt_of_cell? w _ ht)]; exact ht)).mono ?_; rintro e w' ⟨rfl, rfl⟩))
  have A0 := arr_new w
  have B0 := below_alloc w (.cells Tryd.zeroCells139 139)
  generalize w.alloc (.cells Tryd.zeroCells139 139) = W0 at *
  have X0 := Lib.hid (And.intro A0 B0)
  clear A0 B0 ht
  generalize hab : w.heap.size = ab at *
  have HAB := Lib.hid hab
  clear hab
  go_loopg [1, 13] K (fun g s1 s13 wr => ∃ (k p u : Nat) (zs : List UInt8), k + g = K ∧ s1 = .int .u64 u ∧ u = n / 16 ^ k ∧ s13 = .int .i64 p ∧ p + k = 65 ∧ zs.length = 65 ∧ zs.drop p = lows k n ∧ ArrAt wr ab zs ∧ Below ab w wr)
  case atStart => exact ⟨0, 65, n, List.replicate 65 0, by omega, rfl, by simp, rfl, rfl, by simp, by kernel_rfl, X0.out.1, X0.out.2⟩
  case round =>
    obtain ⟨k, p, u, zs, hkg, rfl, hu, rfl, hpk, hzl, hzd, har, hbe⟩ := hrel
    have HX := Lib.hid (And.intro hu (And.intro hzl (And.intro hzd (And.intro har hbe))))
    clear hu hzl hzd har hbe
    cases gk with
    | zero =>
      have hu : ¬ ((16 : Int) ≤ (u : Int)) := by have := HX.out.1; have := H.out.2.2; obtain rfl : k = K := by omega
                                                 omega
      obtain ⟨p', hp'⟩ : ∃ p', p' + 1 = p := ⟨p - 1, by omega⟩
      subst hp'
      have hp64 : p' < 65 := by omega
      have hu36 : u < 36 := by omega
      obtain ⟨⟨v, c1⟩, c2⟩ := HX.out.2.2.2.1.at hp64
      go_upto_region 30 with (fail)
      have HA : ArrAt (wr.setCell ⟨ab, p', none⟩ (.int .u8 ((digs[u]'hu36).toNat : Int))) ab (zs.set p' (digs[u]'hu36)) := HX.out.2.2.2.1.set p' _
      have HB : Below ab w (wr.setCell ⟨ab, p', none⟩ (.int .u8 ((digs[u]'hu36).toNat : Int))) := HX.out.2.2.2.2.setCell (by exact Nat.le_refl _) _
      change Code.wp _ _ _ _ (wr.setCell ⟨ab, p', none⟩ (.int .u8 ((digs[u]'hu36).toNat : Int)))
      generalize wr.setCell ⟨ab, p', none⟩ (.int .u8 ((digs[u]'hu36).toNat : Int)) = Wz at *
      have HR := HA.reads (p := p') (by omega) (by rw [List.length_set]; exact HX.out.2.1)
      rw [drop_set_self _ _ _ (by rw [HX.out.2.1]; exact hp64), HX.out.2.2.1, dig_at u (by omega)] at HR
      have he : dig u :: lows k n = lows (K + 1) n := by
        obtain rfl : k = K := by omega
        show _ = dig (n / 16 ^ k % 16) :: lows k n
        rw [← HX.out.1, Nat.mod_eq_of_lt (by omega)]
      rw [he] at HR
      have sE : (convert 29 9 (.slice (some ⟨ab, p', none⟩) (65 - p') (65 - p'))).run Tryd.prog Wz = .ok (.string (strB (lows (K + 1) n))) Wz := run_string_of _ _ _ Tryd.underlying29 Tryd.underlying5 Tryd.underlying9 HR
      have hl65 : Tryd.prog.arrayLen 139 = 65 := by kernel_rfl
      have hel : Tryd.prog.elem 139 = 5 := by kernel_rfl
      have hsz : (sizeOf 5).run Tryd.prog Wz = .ok 1 Wz := by go_simp
      have sS : (Instr.sliceAt 139 (.pointer (some ⟨ab, 0, none⟩)) (some (.int .i64 (p' : Int))) none none).run Tryd.prog Wz = .ok (.slice (some ⟨ab, p', none⟩) (65 - p') (65 - p')) Wz := by
        rw [run_sliceAt_array_l Wz 139 ⟨ab, 0, none⟩ (by rw [hl65, hel]; exact Tryd.underlying139) .i64 p' (by omega) (by rw [hl65]; omega), hel, hsz, hl65]
        have hne : ¬ (65 = p') := by omega
        have hp0 : ¬ (p' = 0) := by omega
        simp [slicedAt, Result.andThen, Addr.add, hne, hp0]
      clear hl65 hel hsz
      have HE := Lib.hid HB
      clear HA HB HR he c1 c2
      go_wp2
      go_ret2
      exact ⟨rfl, by rw [HAB.out]; exact HE.out⟩
    | succ g =>
      have hu : (16 : Int) ≤ (u : Int) := by have h1 := HX.out.1; have h2 := H.out.2.1 k (by omega); rw [← h1] at h2; omega
      obtain ⟨p', hp'⟩ : ∃ p', p' + 1 = p := ⟨p - 1, by omega⟩
      subst hp'
      have hp64 : p' < 65 := by omega
      have hu64 : u < 18446744073709551616 := by have h1 := HX.out.1; have h2 := H.out.1; have := Nat.div_le_self n (16 ^ k); omega
      obtain ⟨d, hd0⟩ : ∃ d, d = u % 16 := ⟨_, rfl⟩
      have hb : bits .and .u64 (u : Int) 15 = (d : Int) := by rw [hd0]; exact and15 u hu64
      have hd : d < 16 := by rw [hd0]; exact Nat.mod_lt _ (by omega)
      have hd36 : d < 36 := by omega
      have HD := Lib.hid hd0
      clear hd0
      obtain ⟨⟨v, c1⟩, c2⟩ := HX.out.2.2.2.1.at hp64
      go_wp2
      go_roundg g
      case measure => omega
      case rel =>
        refine ⟨k + 1, p', u / 16, zs.set p' (digs[d]'hd36), by omega, by first | rfl | (congr 1; omega), ?_, rfl, by omega, by rw [List.length_set]; exact HX.out.2.1, ?_, HX.out.2.2.2.1.set p' _, ?_⟩
        · rw [HX.out.1, Nat.div_div_eq_div_mul, ← Nat.pow_succ]
        · rw [drop_set_self _ _ _ (by rw [HX.out.2.1]; exact hp64), HX.out.2.2.1, dig_at d hd, HD.out, HX.out.1]; rfl
        · exact HX.out.2.2.2.2.setCell (by exact Nat.le_refl _) _
end Go.Proofs.YtehkgcmdndehaaaDoor
