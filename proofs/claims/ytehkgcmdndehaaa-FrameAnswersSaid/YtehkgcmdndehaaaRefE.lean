import Derived.Test.YtehkgcmdndehaaaRefT
namespace Go.Proofs.Ytehkgcmdndehaaa
set_option linter.unusedSimpArgs false
set_option linter.unusedVariables false
open Go.RowKit

/-- A value is answered; the world has drawn. -/
def DrewPost (w : World) (val : Value) (e : Ending) (w' : World) : Prop := e = .returned val ∧ ∃ k, w' = w.drewN k

set_option maxHeartbeats 1600000 in
set_option maxRecDepth 100000 in
theorem ref_end (xb n L : Nat) (a0 : Option Addr) (k0 : Nat) (er : Int) (w : World) (hl : L ≤ 1000000) (hn : n ≤ L) (c0 : w.cell? ⟨xb, 0, none⟩ = some (.slice a0 L k0)) (c1 : w.cell? ⟨xb, 1, none⟩ = some (.int .i64 n)) (c2 : w.cell? ⟨xb, 2, none⟩ = some (.int .i64 er)) :
    Calls Try.prog 49 #[.pointer (some ⟨xb, 0, none⟩)] w (DrewPost w (.int .i64 (if er = 0 ∧ n < L then 9 else er))) := by
  by_cases h1 : er = 0
  · subst h1
    by_cases h2 : n < L
    · have g : (n : Int) < (L : Int) := by omega
      rw [if_pos ⟨rfl, h2⟩]
      go_enter Try.func49, Try.ntmps49
      go_wp2_with fail
      go_quiet (fail)
      go_wp2
      go_ret
      exact ⟨rfl, _, rfl⟩
    · have g : ¬ (n : Int) < (L : Int) := by omega
      rw [if_neg (fun h => h2 h.2)]
      go_enter Try.func49, Try.ntmps49
      go_wp2_with fail
      go_quiet (fail)
      go_wp2
      go_ret
      exact ⟨rfl, _, rfl⟩
  · have gb : (er == 0) = false := by simp [h1]
    rw [if_neg (fun h => h1 h.1)]
    go_enter Try.func49, Try.ntmps49
    go_wp2_with fail
    go_quiet (fail)
    go_wp2
    go_ret
    exact ⟨rfl, _, rfl⟩
end Go.Proofs.Ytehkgcmdndehaaa
