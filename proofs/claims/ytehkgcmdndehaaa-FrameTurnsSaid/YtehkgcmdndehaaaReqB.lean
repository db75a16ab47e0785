import Derived.Test.YtehkgcmdndehaaaReqA
namespace Go.Proofs.Ytehkgcmdndehaaa
set_option linter.unusedSimpArgs false
set_option linter.unusedVariables false
open Go.RowKit

set_option maxHeartbeats 400000 in
set_option maxRecDepth 100000 in
theorem fr_long (a : Addr) (s : ByteArray) (w : World) (hc : w.cell? a = some (.string s)) :
    Calls Try.prog 36 #[.pointer (some a)] w fun e w' => e = .returned (.bool (longB s)) ∧ w = w' := by
  go_enter Try.func36, Try.ntmps36
  go_wp2
  go_ret
  refine ⟨?_, rfl⟩
  refine ret_bool ?_
  simp only [longB, decide_eq_decide]
  omega

/-- The texts that a list of pointers leads to. -/
def TextsAt (w : World) (ao : Option Addr) (ss : List ByteArray) : Prop :=
  ∀ k s, ss[k]? = some s → ∃ nb a, ao = some ⟨nb, 0, none⟩ ∧ w.cell? ⟨nb, k, none⟩ = some (.pointer (some a)) ∧ w.cell? a = some (.string s)

def IdxPost (w : World) (ss : List ByteArray) (e : Ending) (w' : World) : Prop := ∃ i : Int, e = .returned (.int .i64 i) ∧ decide (0 ≤ i) = ss.any longB ∧ w = w'

set_option maxHeartbeats 800000 in
set_option maxRecDepth 100000 in
theorem fr_index (ao : Option Addr) (ss : List ByteArray) (c : Nat) (w : World) (hm : ss.length < 1000) (hs : TextsAt w ao ss) :
    Calls Try.prog 63 #[.slice ao ss.length c, .func (.func 36) #[] #[]] w (IdxPost w ss) := by
  have HS := Lib.hid hs
  clear hs
  go_enter Try.func63, Try.ntmps63
  go_wp2
  go_loopg [5, 8] ss.length (fun g s5 s8 wr => ∃ (k : Nat), k + g = ss.length ∧ s8 = .int .i64 k ∧ (ss.take k).any longB = false ∧ w = wr)
  case atStart => exact ⟨0, by omega, rfl, rfl, rfl⟩
  case round =>
    obtain ⟨k, hkg, rfl, hno, rfl⟩ := hrel
    have HN := Lib.hid hno
    clear hno
    cases gk with
    | zero =>
      have hk : ¬ ((k : Int) < (ss.length : Int)) := by omega
      go_wp2
      go_ret
      refine ⟨-1, rfl, ?_, rfl⟩
      have := HN.out
      rw [List.take_of_length_le (by omega)] at this
      rw [this]; rfl
    | succ g =>
      obtain ⟨s, hsk⟩ : ∃ s, ss[k]? = some s := ⟨_, List.getElem?_eq_getElem (by omega)⟩
      have hk : (k : Int) < (ss.length : Int) := by omega
      obtain ⟨nb, a, rfl, hc1, hc2⟩ := HS.out k s hsk
      have HT : Hid (ss.take (k + 1) = ss.take k ++ [s]) := Lib.hid (by
        obtain ⟨hk', h⟩ := List.getElem?_eq_some_iff.1 hsk
        rw [List.take_succ_eq_append_getElem hk', h])
      have HA : Hid (s ∈ ss) := Lib.hid (List.mem_of_getElem? hsk)
      clear hsk
      by_cases hl : longB s = true
      · have HL := Lib.hid hl
        go_wp2_with (go_at_call 36; refine (fr_long a s w hc2).mono ?_; rintro e w' ⟨rfl, rfl⟩)
        go_ret
        refine ⟨k, rfl, ?_, rfl⟩
        rw [List.any_eq_true.2 ⟨s, HA.out, HL.out⟩]
        simp
      · have hl : longB s = false := by simpa using hl
        have HL := Lib.hid hl
        go_wp2_with (go_at_call 36; refine (fr_long a s w hc2).mono ?_; rintro e w' ⟨rfl, rfl⟩)
        go_roundg g
        case measure => omega
        case rel => exact ⟨k + 1, by omega, by first | rfl | go_num, by rw [HT.out, List.any_append, HN.out]; simp [HL.out], rfl⟩

set_option maxHeartbeats 400000 in
set_option maxRecDepth 100000 in
theorem fr_contains (ao : Option Addr) (ss : List ByteArray) (c : Nat) (w : World) (hm : ss.length < 1000) (hs : TextsAt w ao ss) :
    Calls Try.prog 35 #[.slice ao ss.length c, .func (.func 36) #[] #[]] w fun e w' => e = .returned (.bool (ss.any longB)) ∧ w = w' := by
  go_enter Try.func35, Try.ntmps35
  go_wp2_with fail
  refine (fr_index ao ss c w hm hs).mono ?_
  rintro e w' ⟨i, rfl, hi, rfl⟩
  have HI := Lib.hid hi
  clear hi
  go_wp2
  go_ret
  exact ⟨ret_bool HI.out, rfl⟩
end Go.Proofs.Ytehkgcmdndehaaa
