import Derived.Test.YtehkgcmdndehaaaLaw18
import Derived.OpenShut
namespace Go.Proofs.Ytehkgcmdndehaaa
set_option linter.unusedSimpArgs false
set_option linter.unusedVariables false
open Go.RowKit

/-- A frame: its length in two bytes, and its bytes. -/
def frameB (zs : List UInt8) : List UInt8 := byteOf (zs.length / 256) :: byteOf zs.length :: zs

theorem own_lit (w : World) (base n : Nat) (cs : Array Value) (bs : List UInt8) (h : cs.toList = bcells bs) (hn : n = bs.length) (hb : base ≤ w.heap.size) (hm : n ≤ maxLen) :
    (w.alloc (.cells cs 5)).ownsRow base 5 1 (.slice (some ⟨w.heap.size, 0, none⟩) n n) n (bcells bs) := by
  have hs : cs.size = n * 1 := by rw [← Array.length_toList, h, bcells_length, hn, Nat.mul_one]
  have := World.ownsRow_lit w cs n (e := 5) (size := 1) hb hm hs
  rwa [h] at this

set_option maxHeartbeats 400000 in
set_option maxRecDepth 100000 in
theorem fr_frame_no (a : Option Addr) (n c : Nat) (w : World) (h : n = 0 ∨ 512 < n) : Calls Try.prog 15 #[.slice a n c] w (EncNo w 5) := by
  by_cases h0 : n = 0
  · subst h0
    go_enter Try.func15, Try.ntmps15
    go_wp2
    go_ret2
    exact ⟨rfl, Below.refl _ _⟩
  · have h1 : (512 : Int) < (n : Int) := by omega
    have h2 : ((n : Int) == 0) = false := by simp; omega
    clear h h0
    go_enter Try.func15, Try.ntmps15
    go_wp2
    go_ret2
    exact ⟨rfl, Below.refl _ _⟩

set_option maxHeartbeats 800000 in
set_option maxRecDepth 100000 in
theorem fr_frame_ok (v : Value) (zs : List UInt8) (w : World) (hr : Reads w v zs) (h0 : 0 < zs.length) (h1 : zs.length ≤ 512) : Calls Try.prog 15 #[v] w (EncOk w (frameB zs)) := by
  obtain ⟨i0, hi, hz0, hz1, hz2⟩ := info_parts infoU8
  rcases hr with ⟨_, rfl⟩ | ⟨b, off, cap, rfl, hc, hb, hx⟩
  · simp at h0
  have HX : Hid (∀ (j : Nat) (u : Value), (bcells zs)[j]? = some u → w.cell? ⟨b, off + j, none⟩ = some u) := fun j u hu => by
    simp only [bcells, List.getElem?_map, Option.map_eq_some_iff] at hu
    obtain ⟨x, hx1, rfl⟩ := hu
    exact hx j x hx1
  clear hx
  have g1 : ¬ (512 : Int) < (zs.length : Int) := by omega
  have g2 : ((zs.length : Int) == 0) = false := by rw [beq_eq_false_iff_ne]; omega
  generalize hn : zs.length = n at *
  have HN := Lib.hid hn
  clear hn
  go_enter Try.func15, Try.ntmps15
  go_wp2_with (at_builtin; refine wpList_append_lies _ rfl (.tmp 19) (.tmp 20) 28 rfl w.heap.size 5 i0 (.int .u8 0) 1 1 Try.underlying28 hi hz0 hz1 hz2 rfl (by decide) _ 2 (bcells [byteOf ((n : Int) / 256), byteOf n]) rfl (own_lit w w.heap.size 2 _ _ ?cs rfl (Nat.le_refl _) (by decide)) ⟨b, off, none⟩ n cap (bcells zs) rfl ?c0 ?c1 (bcells_oneCell _) h0 ?c2 ?c3 (by simp) (w.heap.size + 1) (by simp) ?_)
  case cs => simp [bcells, byteOf_mod]; omega
  case c0 => rw [bcells_length]; have := HN.out; omega
  case c1 =>
    intro j u hu
    exact HX.out j u hu
  case c2 => exact (fits_of (2 + n) (by omega)).max
  case c3 => exact (fits_of (2 + n) (by omega)).reach'
  intro g cap2 w1 hown hgrow hg hlt
  have fin : w1.ownsRow w.heap.size 5 1 (.slice (some ⟨g, 0, none⟩) (2 + n) cap2) (frameB zs).length (bcells (frameB zs)) := by
    have e : bcells (frameB zs) = bcells [byteOf ((n : Int) / 256), byteOf n] ++ bcells zs := by rw [← bcells_append, frameB, HN.out]; rfl
    have e2 : (frameB zs).length = 2 + n := by rw [frameB]; simp [HN.out]; omega
    rw [e, e2]
    exact hown
  have hB : Below w.heap.size w w1 := (below_alloc w _).grown hgrow (by simp) (fun k hk => by cases hk; exact Nat.le_refl _)
  have F := Lib.hid (And.intro fin hB)
  clear fin hB hown hgrow hg
  go_wp2
  go_ret2
  exact ⟨_, rfl, F.out⟩

theorem emod_neg_zero {a n : Int} (h : (-a) % n = 0) : a % n = 0 := by
  have := Int.emod_emod_of_dvd a (Int.dvd_refl n)
  have h2 : n ∣ -a := Int.dvd_of_emod_eq_zero h
  exact Int.emod_eq_zero_of_dvd ((Int.dvd_neg).1 h2)
theorem emod_neg_pos {a n : Int} (hn : 0 < n) (h : 0 < (-a) % n) : a % n = -((-a) % n) + n := by
  have h1 : (-a) % n < n := Int.emod_lt_of_pos _ hn
  have e : n * ((-a) / n) + (-a) % n = -a := Int.mul_ediv_add_emod (-a) n
  have e2 : a = (-((-a) % n) + n) + n * (-((-a) / n) - 1) := by
    have : n * (-((-a) / n) - 1) = -(n * ((-a) / n)) - n := by rw [Int.mul_sub, Int.mul_neg, Int.mul_one]
    omega
  have e3 : a % n = (-((-a) % n) + n) % n := by
    conv => lhs; rw [e2]
    rw [Int.add_mul_emod_self_left]
  rw [e3, Int.emod_eq_of_lt (by omega) (by omega)]

set_option maxHeartbeats 400000 in
set_option maxRecDepth 100000 in
/-- 'within': the rest that is not below 0. -/
theorem l18_within (a n : Int) (w : World) (h0 : 0 < n) (h1 : n ≤ 1000000) (ha : (Lit.int .i64 a).wf = true) :
    Calls Try.prog 14 #[.int .i64 a, .int .i64 n] w fun e w' => e = .returned (.int .i64 (a % n)) ∧ w = w' := by
  have hb := bounds_i64 ha
  obtain ⟨hb1, hb2⟩ := hb
  clear ha
  have hne : (n == 0) = false := by simp; omega
  have e1 : 0 ≤ a % n := Int.emod_nonneg _ (by omega)
  have e2 : a % n < n := Int.emod_lt_of_pos _ h0
  by_cases hpos : 0 ≤ a
  · have t1 : a.tmod n = a % n := Int.tmod_eq_emod_of_nonneg hpos
    go_enter Try.func14, Try.ntmps14
    go_wp2
    go_ret
    exact ⟨rfl, rfl⟩
  · have t1 : a.tmod n = -((-a) % n) := by
      rw [show a = -(-a) by omega, Int.neg_tmod, Int.tmod_eq_emod_of_nonneg (by omega)]; simp
    have P1 := Lib.hid (emod_neg_zero (a := a) (n := n))
    have P2 := Lib.hid (emod_neg_pos (a := a) h0)
    have q1 : 0 ≤ (-a) % n := Int.emod_nonneg _ (by omega)
    have q2 : (-a) % n < n := Int.emod_lt_of_pos _ h0
    by_cases h3 : (0 : Int) < (-a) % n
    · have P := Lib.hid (P2.out h3)
      go_enter Try.func14, Try.ntmps14
      go_wp2
      go_ret
      exact ⟨ret_int P.out.symm, rfl⟩
    · have h4 : (-a) % n = 0 := by omega
      have P := Lib.hid (P1.out h4)
      go_enter Try.func14, Try.ntmps14
      go_wp2
      go_ret
      exact ⟨ret_int (by rw [P.out]), rfl⟩

end Go.Proofs.Ytehkgcmdndehaaa
