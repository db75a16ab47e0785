/-
  The listed package variables: what the walks read of them.
-/
/-
  What a call leaves that writes into one block at some places, makes new blocks, and nothing else. No function in sight.
-/
/-
  formatBits at base 16.
-/
import Derived.Test.YtehkgcmdndehaaaDoorRows
import Derived.Test.YtehkgcmdndehaaaDoorChecked
import Derived.WalkKit
import Derived.ProofKit
import Derived.OpenShut
import Derived.LaidMore
import Derived.Lay
import Derived.Test.YtehkgcmdndehaaaDoorGPRA07
import Derived.Deep.MidRow
import Derived.Test.YtehkgcmdndehaaaDoorGPRA06
import Derived.Test.YtehkgcmdndehaaaDoorGPRA01
import Derived.Test.YtehkgcmdndehaaaDoorGPRA04
import Derived.Test.YtehkgcmdndehaaaDoorGPRA03
import Derived.Deep.DeepCutAuto
import Derived.Deep.CutBlock
import Derived.Laws.Bits64b
import Derived.Laws.Slices
namespace Go.Proofs.YtehkgcmdndehaaaDoor
open Go.ChangeShapes Go.WideShapes Go.ChangeAt Go.RowKit
set_option linter.unusedVariables false
set_option linter.unusedSimpArgs false
/-- The listed variables. -/
abbrev lay : List (String × DataW Unit) := [("math/bits.deBruijn32tab", Rows.laid_math_bits_deBruijn32tab), ("math/bits.deBruijn64tab", Rows.laid_math_bits_deBruijn64tab), ("internal/strconv.uint64pow10", Rows.laid_internal_strconv_uint64pow10)]
set_option maxRecDepth 100000 in
theorem tab_cell {W : World} (h : laidMetH Tryd.prog lay W) : W.cell? ⟨3, 15, none⟩ = some (.int .u8 4) := by
  rw [MakeChecks.laidMetH_plain _ _ _ (by kernel_rfl)] at h
  obtain ⟨ps, ⟨g0, t0, cs0, f0, p0, q0, hg0, ht0, hv0, hd0, ⟨g, t, cs, fuel, p, q, hg, ht, hv, hd, _, _⟩, _⟩, _, _⟩ := h
  obtain rfl := Option.some.inj ((show Tryd.prog.globalNamed "math/bits.deBruijn64tab" = some 3 by kernel_rfl).symm.trans hg)
  obtain rfl := Option.some.inj ((show (Tryd.prog.globals[3]?).map (·.type) = some 148 by kernel_rfl).symm.trans ht)
  obtain ⟨xs, m, _, ex, _, hl, hel⟩ := DataW.trod_array Tryd.underlying148 hd
  have c5 : Tryd.prog.cellsOf 5 = 1 := by kernel_rfl
  have hE := hel 15 (by decide)
  rw [c5, Nat.mul_one, List.getElem?_eq_getElem (by omega)] at hE
  obtain ⟨z, e1, e2, _⟩ := DataW.trod_int Tryd.underlying5 hE
  have e3 : (Rows.laid_math_bits_deBruijn64tab : DataW Unit) = .agg (xs.map (·.1)) := (Prod.mk.inj ex).1
  have e4 : (xs.map (·.1))[15]? = some (.lit (.int .u8 4)) := by
    have h1 := DataW.agg.inj e3
    rw [← h1]; rfl
  rw [List.getElem?_map, List.getElem?_eq_getElem (by omega : 15 < xs.length), e2] at e4
  have hz : z = 4 := by simpa using e4
  subst hz
  rw [World.var?_cell hg hv 15]
  have : cs.toList[15]? = some (.int .u8 4) := by
    have h0 : ((cs.toList.drop 15).take 1)[0]? = some (.int .u8 4) := by rw [e1]; rfl
    simpa using h0
  simpa using this
end Go.Proofs.YtehkgcmdndehaaaDoor

namespace Go.Proofs.YtehkgcmdndehaaaDoor
set_option linter.unusedSimpArgs false
set_option linter.unusedVariables false
open Go.RowKit

structure Mods (w w' : World) (rb : Nat) (S : Nat → Prop) : Prop where
  os : w'.os = w.os
  tape : w'.tape = w.tape
  output : w'.output = w.output
  size : w.heap.size ≤ w'.heap.size
  block : ∀ k, k < w.heap.size → k ≠ rb → w'.heap[k]? = w.heap[k]?
  row : ∀ o, ¬ S o → w'.cell? ⟨rb, o, none⟩ = w.cell? ⟨rb, o, none⟩
  frz : ∀ o, w'.frozen? ⟨rb, o, none⟩ = w.frozen? ⟨rb, o, none⟩

theorem Mods.refl (w : World) (rb : Nat) (S : Nat → Prop) : Mods w w rb S := ⟨rfl, rfl, rfl, Nat.le_refl _, fun _ _ _ => rfl, fun _ _ => rfl, fun _ => rfl⟩
theorem Mods.trans {a b c : World} {rb : Nat} {S : Nat → Prop} (h : Mods a b rb S) (k : Mods b c rb S) : Mods a c rb S :=
  ⟨k.os.trans h.os, k.tape.trans h.tape, k.output.trans h.output, Nat.le_trans h.size k.size, fun j hj hr => (k.block j (Nat.lt_of_lt_of_le hj h.size) hr).trans (h.block j hj hr),
    fun o ho => (k.row o ho).trans (h.row o ho), fun o => (k.frz o).trans (h.frz o)⟩
theorem Mods.mono {a b : World} {rb : Nat} {S S' : Nat → Prop} (h : Mods a b rb S) (hS : ∀ o, S o → S' o) : Mods a b rb S' :=
  ⟨h.os, h.tape, h.output, h.size, h.block, fun o ho => h.row o (fun e => ho (hS o e)), h.frz⟩
theorem Mods.of_rds {a b : World} {rb : Nat} {S : Nat → Prop} (h : Rds a b rb) (h0 : S 0) (h1 : S 1) : Mods a b rb S :=
  ⟨h.os, h.tape, h.output, h.size, h.block, fun o ho => h.row o (fun e => ho (e ▸ h0)) (fun e => ho (e ▸ h1)), h.frz⟩
theorem Mods.of_below {a b : World} {rb : Nat} {S : Nat → Prop} (hB : Below a.heap.size a b) (hb : rb < a.heap.size) : Mods a b rb S :=
  ⟨hB.os, hB.tape, hB.output, hB.size, fun k hk _ => hB.block k hk, fun o _ => hB.cell (p := ⟨rb, o, none⟩) hb, fun o => hB.frozen (p := ⟨rb, o, none⟩) hb⟩
theorem Mods.of_ints {a b : World} {rb : Nat} {v : Value} {offs : List Nat} {r : Re} {S : Nat → Prop} (h : IntsRe a b rb rb v offs r) (hb : rb < a.heap.size) (h0 : S 0) (h1 : S 1) (hS : ∀ o ∈ offs, S o) : Mods a b rb S :=
  ⟨h.os, h.tape, h.output, h.size, fun k hk hr => h.block k hk hr hr, fun o ho => h.keep rb o hb (fun _ => ⟨fun e => ho (e ▸ h0), fun e => ho (e ▸ h1)⟩) (fun _ hm => ho (hS o hm)), fun o => h.frz rb o hb⟩
theorem Mods.drew {a b : World} {rb : Nat} {S : Nat → Prop} (h : Mods a b rb S) : Mods a b.drew rb S := ⟨h.os, h.tape, h.output, h.size, h.block, h.row, h.frz⟩
theorem Mods.of_setCell {a : World} {rb o : Nat} {u : Value} {S : Nat → Prop} (ho : S o) : Mods a (a.setCell ⟨rb, o, none⟩ u) rb S :=
  ⟨rfl, rfl, rfl, by simp [World.setCell], fun k _ hr => Below.heap_setCell _ _ _ _ hr, fun p hp => cell_set_ne (fun e => hp (by cases e; exact ho)), fun p => by simp⟩
theorem Mods.of_setCells {rb : Nat} {S : Nat → Prop} : ∀ (vs : List Value) (o : Nat) (a : World), (∀ j, j < vs.length → S (o + j)) → Mods a (a.setCells rb o vs) rb S
  | [], _, _, _ => Mods.refl _ _ _
  | v :: r, o, a, h => (Mods.of_setCell (by simpa using h 0 (by simp))).trans (Mods.of_setCells r (o + 1) _ (fun j hj => by have := h (j + 1) (by simpa using hj); rwa [show o + (j + 1) = o + 1 + j by omega] at this))
theorem Mods.below {w w' : World} {rb B : Nat} {S : Nat → Prop} (h : Mods w w' rb S) (hB : B ≤ rb) (hs : B ≤ w.heap.size) : Below B w w' :=
  ⟨h.os, h.tape, h.output, h.size, fun k hk => h.block k (by omega) (by omega)⟩
theorem Reads.mods {w w' : World} {rb : Nat} {v : Value} {zs : List UInt8} {S : Nat → Prop} (h : Reads w v zs) (hr : Mods w w' rb S) (hv : v.ownBlock ≠ some rb) : Reads w' v zs := by
  rcases h with h | ⟨b, off, cap, rfl, hc, hb, hx⟩
  · exact .inl h
  · exact .inr ⟨b, off, cap, rfl, hc, Nat.lt_of_lt_of_le hb hr.size, fun i x hi => (World.cell?_of_block (hr.block b hb (fun e => hv (by rw [e]; rfl)))).trans (hx i x hi)⟩
theorem ReAt.mods {w w' : World} {rb : Nat} {v : Value} {r : Re} {S : Nat → Prop} (h : ReAt w rb v r) (hr : Mods w w' rb S) (h0 : ¬ S 0) (h1 : ¬ S 1) : ReAt w' rb v r :=
  ⟨(hr.row 0 h0).trans h.c0, (hr.row 1 h1).trans h.c1, (hr.frz 0).trans h.f0, (hr.frz 1).trans h.f1, h.reads.mods hr h.apart, h.apart⟩
end Go.Proofs.YtehkgcmdndehaaaDoor

namespace Go.Proofs.YtehkgcmdndehaaaDoor
set_option linter.unusedSimpArgs false
set_option linter.unusedVariables false
open Go.RowKit

set_option maxHeartbeats 1600000 in
set_option maxRecDepth 100000 in
theorem rr_numbers (rb : Nat) (k : Int) (w : World) :
    Calls Tryd.prog 57 #[.pointer (some ⟨rb, 0, none⟩), .int .i64 k] w (PtrsPost w rb (recOffs k)) := by
  go_enter Tryd.func57, Tryd.ntmps57
  by_cases h : k = 0
  · subst h
    go_wp2
    go_region
    all_goals (try go_wp2)
    all_goals go_ret
    all_goals exact ptrs_block _ _ _ _ _ _ rfl (by first | exact (below_alloc _ _).drew | exact below_alloc _ _) (heap_alloc_new _ _)
  have g0 : ¬ k = 0 := h
  clear h
  by_cases h : k = 1
  · subst h
    go_wp2
    go_region
    all_goals (try go_wp2)
    all_goals go_ret
    all_goals exact ptrs_block _ _ _ _ _ _ rfl (by first | exact (below_alloc _ _).drew | exact below_alloc _ _) (heap_alloc_new _ _)
  have g1 : ¬ k = 1 := h
  clear h
  by_cases h : k = 3
  · subst h
    go_wp2
    go_region
    all_goals (try go_wp2)
    all_goals go_ret
    all_goals exact ptrs_block _ _ _ _ _ _ rfl (by first | exact (below_alloc _ _).drew | exact below_alloc _ _) (heap_alloc_new _ _)
  have g3 : ¬ k = 3 := h
  clear h
  by_cases h : k = 2
  · subst h
    go_wp2
    go_region
    all_goals (try go_wp2)
    all_goals go_ret
    all_goals exact ptrs_block _ _ _ _ _ _ rfl (by first | exact (below_alloc _ _).drew | exact below_alloc _ _) (heap_alloc_new _ _)
  have g2 : ¬ k = 2 := h
  clear h
  rw [show recOffs k = [73, 74, 75] by simp [recOffs, g0, g1, g2, g3]]
  go_wp2
  go_region
  all_goals (try go_wp2)
  all_goals go_ret
  all_goals exact ptrs_block _ _ _ _ _ _ rfl (by first | exact (below_alloc _ _).drew | exact below_alloc _ _) (heap_alloc_new _ _)
end Go.Proofs.YtehkgcmdndehaaaDoor

namespace Go.Proofs.YtehkgcmdndehaaaDoor
set_option linter.unusedSimpArgs false
set_option linter.unusedVariables false
open Go.RowKit

def dig (d : Nat) : UInt8 := if d < 10 then UInt8.ofNat (48 + d) else UInt8.ofNat (87 + d)
abbrev digs : ByteArray := ⟨#[48, 49, 50, 51, 52, 53, 54, 55, 56, 57, 97, 98, 99, 100, 101, 102, 103, 104, 105, 106, 107, 108, 109, 110, 111, 112, 113, 114, 115, 116, 117, 118, 119, 120, 121, 122]⟩
theorem dig_at (d : Nat) (hd : d < 16) (h : d < digs.size) : digs[d]'h = dig d := by
  match d, hd with
  | 0, _ => rfl
  | 1, _ => rfl
  | 2, _ => rfl
  | 3, _ => rfl
  | 4, _ => rfl
  | 5, _ => rfl
  | 6, _ => rfl
  | 7, _ => rfl
  | 8, _ => rfl
  | 9, _ => rfl
  | 10, _ => rfl
  | 11, _ => rfl
  | 12, _ => rfl
  | 13, _ => rfl
  | 14, _ => rfl
  | 15, _ => rfl
  | d + 16, h => exact absurd h (by omega)
theorem drop_set_self : ∀ (zs : List UInt8) (p : Nat) (x : UInt8), p < zs.length → (zs.set p x).drop p = x :: zs.drop (p + 1)
  | [], p, x, h => absurd h (by simp)
  | a :: r, 0, x, h => rfl
  | a :: r, p + 1, x, h => by simpa using drop_set_self r p x (by simpa using h)
theorem and15 (u : Nat) (h : u < 18446744073709551616) : bits .and .u64 (u : Int) 15 = ((u % 16 : Nat) : Int) := by
  have h1 := bits_and_u64_nat u 15 h (by decide)
  have h2 : u &&& 15 = u % 16 := Nat.and_two_pow_sub_one_eq_mod u 4
  rw [h2] at h1
  exact h1
/-- The last k hex digits. -/
def lows : Nat → Nat → List UInt8
  | 0, _ => []
  | k + 1, n => dig (n / 16 ^ k % 16) :: lows k n
/-- The array's 65 bytes. -/
def ArrAt (w : World) (ab : Nat) (zs : List UInt8) : Prop := w.ownsRow ab 139 1 (.slice (some ⟨ab, 0, none⟩) 65 65) 65 (bcells zs)
set_option maxRecDepth 100000 in
theorem arr_new (w : World) : ArrAt (w.alloc (.cells Tryd.zeroCells139 139)) w.heap.size (List.replicate 65 0) :=
  ⟨by kernel_rfl, .inr ⟨w.heap.size, 65, Tryd.zeroCells139, rfl, Nat.le_refl _, heap_alloc_new _ _, Nat.le_refl _, by decide, by kernel_rfl, by kernel_rfl⟩⟩
theorem ArrAt.set {w : World} {ab : Nat} {zs : List UInt8} (h : ArrAt w ab zs) (i : Nat) (x : UInt8) : ArrAt (w.setCell ⟨ab, i, none⟩ (.int .u8 (x.toNat : Int))) ab (zs.set i x) := by
  have h1 := (World.ownsRow.stored h i (.int .u8 (x.toNat : Int))).1
  unfold ArrAt
  rw [show bcells (zs.set i x) = (bcells zs).set i (.int .u8 (x.toNat : Int)) by simp only [bcells, List.map_set]]
  exact h1
theorem ArrAt.at {w : World} {ab i : Nat} {zs : List UInt8} (h : ArrAt w ab zs) (hi : i < 65) : (∃ v, w.cell? ⟨ab, i, none⟩ = some v) ∧ w.frozen? ⟨ab, i, none⟩ = false := by
  rcases h.2 with ⟨h', _⟩ | ⟨g', c', cur, h', h1, hg, _, _, hs, _⟩
  · cases h'
  · cases h'
    refine ⟨⟨cur[i]'(by omega), ?_⟩, frozen_of_row _ _ _ _ _ hg⟩
    rw [cell_of_row _ _ _ _ _ _ hg]
    simp
theorem ArrAt.cell {w : World} {ab i : Nat} {zs : List UInt8} {x : UInt8} (h : ArrAt w ab zs) (hx : zs[i]? = some x) : w.cell? ⟨ab, i, none⟩ = some (.int .u8 (x.toNat : Int)) := by
  rcases h.2 with ⟨h', _⟩ | ⟨g', c', cur, h', h1, hg, _, _, hs, ht⟩
  · cases h'
  · cases h'
    rw [cell_of_row _ _ _ _ _ _ hg]
    have e : (bcells zs)[i]? = some (.int .u8 (x.toNat : Int)) := by simp [bcells, hx]
    rw [← ht, List.getElem?_take] at e
    split at e
    · simpa using e
    · cases e
theorem ArrAt.lt {w : World} {ab : Nat} {zs : List UInt8} (h : ArrAt w ab zs) : ab < w.heap.size := by
  rcases h.2 with ⟨h', _⟩ | ⟨g', c', cur, h', h1, hg, _⟩
  · cases h'
  · cases h'
    exact (Array.getElem?_eq_some_iff.1 hg).1
theorem ArrAt.reads {w : World} {ab p : Nat} {zs : List UInt8} (h : ArrAt w ab zs) (hp : p ≤ 65) (hl : zs.length = 65) : Reads w (.slice (some ⟨ab, p, none⟩) (65 - p) (65 - p)) (zs.drop p) :=
  .inr ⟨ab, p, 65 - p, by rw [List.length_drop, hl], by rw [List.length_drop, hl]; exact Nat.le_refl _, h.lt, fun i x hi => h.cell (by rw [← hi, List.getElem?_drop])⟩
set_option maxHeartbeats 1600000 in
set_option maxRecDepth 100000 in
theorem fmt16 (n K : Nat) (hn : n < 2 ^ 64) (hK : K ≤ 15) (hlo : ∀ k, k < K → 16 ≤ n / 16 ^ k) (hhi : n / 16 ^ K < 16) (w : World) (ht : w.cell? ⟨3, 15, none⟩ = some (.int .u8 4)) :
    Calls Tryd.prog 70 #[.slice none 0 0, .int .u64 n, .int .i64 16, .bool false, .bool false] w fun e w' => e = .returned (.tuple #[.slice none 0 0, .string (strB (lows (K + 1) n))]) ∧ Below w.heap.size w w' := by
  have H := Lib.hid (And.intro hn (And.intro hlo hhi))
  clear hn hlo hhi
  go_enter Tryd.func70, Tryd.ntmps70
  go_upto_region 11 with (first
    | (go_at_call 84; refine (pow16 _).mono ?_; rintro e w' ⟨rfl, rfl⟩)
    | (go_at_call 85; refine (tz16 _ (by rw [World.cell?_alloc_past _ _ _ (World.block_lt_of_cell? w _ ht)]; exact ht)).mono ?_; rintro e w' ⟨rfl, rfl⟩))
  have A0 := arr_new w
  have B0 := below_alloc w (.cells Tryd.zeroCells139 139)
  generalize w.alloc (.cells Tryd.zeroCells139 139) = W0 at *
  have X0 := Lib.hid (And.intro A0 B0)
  clear A0 B0 ht
  generalize hab : w.heap.size = ab at *
  have HAB := Lib.hid hab
  clear hab
  go_loopg [1, 13] K (fun g s1 s13 wr => ∃ (k p u : Nat) (zs : List UInt8), k + g = K ∧ s1 = .int .u64 u ∧ u = n / 16 ^ k ∧ s13 = .int .i64 p ∧ p + k = 65 ∧ zs.length = 65 ∧ zs.drop p = lows k n ∧ ArrAt wr ab zs ∧ Below ab w wr)
  case atStart => exact ⟨0, 65, n, List.replicate 65 0, by omega, rfl, by simp, rfl, rfl, by simp, by kernel_rfl, X0.out.1, X0.out.2⟩
  case round =>
    obtain ⟨k, p, u, zs, hkg, rfl, hu, rfl, hpk, hzl, hzd, har, hbe⟩ := hrel
    have HX := Lib.hid (And.intro hu (And.intro hzl (And.intro hzd (And.intro har hbe))))
    clear hu hzl hzd har hbe
    cases gk with
    | zero =>
      have hu : ¬ ((16 : Int) ≤ (u : Int)) := by have := HX.out.1; have := H.out.2.2; obtain rfl : k = K := by omega
                                                 omega
      obtain ⟨p', hp'⟩ : ∃ p', p' + 1 = p := ⟨p - 1, by omega⟩
      subst hp'
      have hp64 : p' < 65 := by omega
      have hu36 : u < 36 := by omega
      obtain ⟨⟨v, c1⟩, c2⟩ := HX.out.2.2.2.1.at hp64
      go_upto_region 30 with (fail)
      have HA : ArrAt (wr.setCell ⟨ab, p', none⟩ (.int .u8 ((digs[u]'hu36).toNat : Int))) ab (zs.set p' (digs[u]'hu36)) := HX.out.2.2.2.1.set p' _
      have HB : Below ab w (wr.setCell ⟨ab, p', none⟩ (.int .u8 ((digs[u]'hu36).toNat : Int))) := HX.out.2.2.2.2.setCell (by exact Nat.le_refl _) _
      change Code.wp _ _ _ _ (wr.setCell ⟨ab, p', none⟩ (.int .u8 ((digs[u]'hu36).toNat : Int)))
      generalize wr.setCell ⟨ab, p', none⟩ (.int .u8 ((digs[u]'hu36).toNat : Int)) = Wz at *
      have HR := HA.reads (p := p') (by omega) (by rw [List.length_set]; exact HX.out.2.1)
      rw [drop_set_self _ _ _ (by rw [HX.out.2.1]; exact hp64), HX.out.2.2.1, dig_at u (by omega)] at HR
      have he : dig u :: lows k n = lows (K + 1) n := by
        obtain rfl : k = K := by omega
        show _ = dig (n / 16 ^ k % 16) :: lows k n
        rw [← HX.out.1, Nat.mod_eq_of_lt (by omega)]
      rw [he] at HR
      have sE : (convert 29 9 (.slice (some ⟨ab, p', none⟩) (65 - p') (65 - p'))).run Tryd.prog Wz = .ok (.string (strB (lows (K + 1) n))) Wz := run_string_of _ _ _ Tryd.underlying29 Tryd.underlying5 Tryd.underlying9 HR
      have hl65 : Tryd.prog.arrayLen 139 = 65 := by kernel_rfl
      have hel : Tryd.prog.elem 139 = 5 := by kernel_rfl
      have hsz : (sizeOf 5).run Tryd.prog Wz = .ok 1 Wz := by go_simp
      have sS : (Instr.sliceAt 139 (.pointer (some ⟨ab, 0, none⟩)) (some (.int .i64 (p' : Int))) none none).run Tryd.prog Wz = .ok (.slice (some ⟨ab, p', none⟩) (65 - p') (65 - p')) Wz := by
        rw [run_sliceAt_array_l Wz 139 ⟨ab, 0, none⟩ (by rw [hl65, hel]; exact Tryd.underlying139) .i64 p' (by omega) (by rw [hl65]; omega), hel, hsz, hl65]
        have hne : ¬ (65 = p') := by omega
        have hp0 : ¬ (p' = 0) := by omega
        simp [slicedAt, Result.andThen, Addr.add, hne, hp0]
      clear hl65 hel hsz
      have HE := Lib.hid HB
      clear HA HB HR he c1 c2
      go_wp2
      go_ret2
      exact ⟨rfl, by rw [HAB.out]; exact HE.out⟩
    | succ g =>
      have hu : (16 : Int) ≤ (u : Int) := by have h1 := HX.out.1; have h2 := H.out.2.1 k (by omega); rw [← h1] at h2; omega
      obtain ⟨p', hp'⟩ : ∃ p', p' + 1 = p := ⟨p - 1, by omega⟩
      subst hp'
      have hp64 : p' < 65 := by omega
      have hu64 : u < 18446744073709551616 := by have h1 := HX.out.1; have h2 := H.out.1; have := Nat.div_le_self n (16 ^ k); omega
      obtain ⟨d, hd0⟩ : ∃ d, d = u % 16 := ⟨_, rfl⟩
      have hb : bits .and .u64 (u : Int) 15 = (d : Int) := by rw [hd0]; exact and15 u hu64
      have hd : d < 16 := by rw [hd0]; exact Nat.mod_lt _ (by omega)
      have hd36 : d < 36 := by omega
      have HD := Lib.hid hd0
      clear hd0
      obtain ⟨⟨v, c1⟩, c2⟩ := HX.out.2.2.2.1.at hp64
      go_wp2
      go_roundg g
      case measure => omega
      case rel =>
        refine ⟨k + 1, p', u / 16, zs.set p' (digs[d]'hd36), by omega, by first | rfl | (congr 1; omega), ?_, rfl, by omega, by rw [List.length_set]; exact HX.out.2.1, ?_, HX.out.2.2.2.1.set p' _, ?_⟩
        · rw [HX.out.1, Nat.div_div_eq_div_mul, ← Nat.pow_succ]
        · rw [drop_set_self _ _ _ (by rw [HX.out.2.1]; exact hp64), HX.out.2.2.1, dig_at d hd, HD.out, HX.out.1]; rfl
        · exact HX.out.2.2.2.2.setCell (by exact Nat.le_refl _) _
end Go.Proofs.YtehkgcmdndehaaaDoor

