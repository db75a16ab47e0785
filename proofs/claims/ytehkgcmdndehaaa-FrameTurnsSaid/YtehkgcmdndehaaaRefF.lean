import Derived.Test.YtehkgcmdndehaaaFrm
namespace Go.Proofs.Ytehkgcmdndehaaa
set_option linter.unusedSimpArgs false
set_option linter.unusedVariables false
open Go.RowKit

set_option maxHeartbeats 400000 in
set_option maxRecDepth 100000 in
theorem ref_frame_no (a : Option Addr) (n c : Nat) (w : World) (h : n = 0 ∨ 512 < n) : Calls Try.prog 19 #[.slice a n c] w (EncNo w 5) := by
  by_cases h0 : n = 0
  · subst h0
    go_enter Try.func19, Try.ntmps19
    go_wp2
    go_ret2
    exact ⟨rfl, Below.refl _ _⟩
  · have h1 : (512 : Int) < (n : Int) := by omega
    have h2 : ((n : Int) == 0) = false := by simp; omega
    clear h h0
    go_enter Try.func19, Try.ntmps19
    go_wp2
    go_ret2
    exact ⟨rfl, Below.refl _ _⟩

set_option maxHeartbeats 800000 in
set_option maxRecDepth 100000 in
theorem ref_frame_ok (v : Value) (zs : List UInt8) (w : World) (hr : Reads w v zs) (h0 : 0 < zs.length) (h1 : zs.length ≤ 512) : Calls Try.prog 19 #[v] w (EncOk w (frameB zs)) := by
  obtain ⟨i0, hi, hz0, hz1, hz2⟩ := info_parts infoU8
  rcases hr with ⟨_, rfl⟩ | ⟨b, off, cap, rfl, hc, hb, hx⟩
  · simp at h0
  have HX : Hid (∀ (j : Nat) (u : Value), (bcells zs)[j]? = some u → w.cell? ⟨b, off + j, none⟩ = some u) := fun j u hu => by
    simp only [bcells, List.getElem?_map, Option.map_eq_some_iff] at hu
    obtain ⟨x, hx1, rfl⟩ := hu
    exact hx j x hx1
  clear hx
  have g1 : ¬ (512 : Int) < (zs.length : Int) := by omega
  have g2 : ((zs.length : Int) == 0) = false := by rw [beq_eq_false_iff_ne]; omega
  generalize hn : zs.length = n at *
  have HN := Lib.hid hn
  clear hn
  go_enter Try.func19, Try.ntmps19
  go_wp2_with (at_builtin; refine wpList_append_lies _ rfl (.tmp 19) (.tmp 20) 28 rfl w.heap.size 5 i0 (.int .u8 0) 1 1 Try.underlying28 hi hz0 hz1 hz2 rfl (by decide) _ 2 (bcells [byteOf ((n : Int) / 256), byteOf n]) rfl (own_lit w w.heap.size 2 _ _ ?cs rfl (Nat.le_refl _) (by decide)) ⟨b, off, none⟩ n cap (bcells zs) rfl ?c0 ?c1 (bcells_oneCell _) h0 ?c2 ?c3 (by simp) (w.heap.size + 1) (by simp) ?_)
  case cs => simp [bcells, byteOf_mod]; omega
  case c0 => rw [bcells_length]; have := HN.out; omega
  case c1 =>
    intro j u hu
    exact HX.out j u hu
  case c2 => exact (fits_of (2 + n) (by omega)).max
  case c3 => exact (fits_of (2 + n) (by omega)).reach'
  intro g cap2 w1 hown hgrow hg hlt
  have fin : w1.ownsRow w.heap.size 5 1 (.slice (some ⟨g, 0, none⟩) (2 + n) cap2) (frameB zs).length (bcells (frameB zs)) := by
    have e : bcells (frameB zs) = bcells [byteOf ((n : Int) / 256), byteOf n] ++ bcells zs := by rw [← bcells_append, frameB, HN.out]; rfl
    have e2 : (frameB zs).length = 2 + n := by rw [frameB]; simp [HN.out]; omega
    rw [e, e2]
    exact hown
  have hB : Below w.heap.size w w1 := (below_alloc w _).grown hgrow (by simp) (fun k hk => by cases hk; exact Nat.le_refl _)
  have F := Lib.hid (And.intro fin hB)
  clear fin hB hown hgrow hg
  go_wp2
  go_ret2
  exact ⟨_, rfl, F.out⟩
end Go.Proofs.Ytehkgcmdndehaaa
