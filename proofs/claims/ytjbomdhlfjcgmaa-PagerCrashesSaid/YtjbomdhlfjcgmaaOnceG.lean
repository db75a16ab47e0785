/-
  sync.Once in one goroutine: Do with whatever function, given by its contract.
-/
import Derived.Test.YtjbomdhlfjcgmaaBMap
import Derived.Laws.MakeOwn
import Derived.Tactics
import Derived.Tactics2
import Derived.Defers
import Derived.Laws.Pointers
import Derived.Laws.LoneSync
import Derived.RegionTactic
import Derived.RegionCalls
import Derived.ChangeAlike
namespace Go.Proofs.Ytjbomdhlfjcgmaa
set_option linter.unusedSimpArgs false
set_option linter.unusedVariables false
open Go.RowKit

theorem race_disable (w : World) : (callFunc 62 #[]).run Try.prog w = .ok (.value (.tuple #[])) w := run_call_mark0 Try.func62 (by kernel_rfl) (by kernel_rfl) (by kernel_rfl) .disable (by kernel_rfl) w
theorem race_enable (w : World) : (callFunc 64 #[]).run Try.prog w = .ok (.value (.tuple #[])) w := run_call_mark0 Try.func64 (by kernel_rfl) (by kernel_rfl) (by kernel_rfl) .enable (by kernel_rfl) w
theorem race_acquire (a : Addr) (w : World) : (callFunc 65 #[.pointer (some a)]).run Try.prog w = .ok (.value (.tuple #[])) w := run_call_marked Try.func65 (by kernel_rfl) (by kernel_rfl) (by kernel_rfl) .acquire (by kernel_rfl) a w
theorem race_release (a : Addr) (w : World) : (callFunc 67 #[.pointer (some a)]).run Try.prog w = .ok (.value (.tuple #[])) w := run_call_marked Try.func67 (by kernel_rfl) (by kernel_rfl) (by kernel_rfl) .releaseMerge (by kernel_rfl) a w

set_option maxRecDepth 100000 in
theorem once_store (a : Addr) (x : Value) (u : FrameMode) (w : World) (hc : w.cell? a = some x) (hz : w.frozen? a = false) :
    CallsD Try.prog 54 #[.pointer (some a), .bool true] u w fun e u' w' => u' = u ∧ (e = .returned (.tuple #[]) ∧ w' = w.drew.setCell a (.int .u32 1)) := by
  have hc' : w.drew.cell? a = some x := by go_simp
  have hz' : w.drew.frozen? a = false := by go_simp
  have hst := run_call_store (P := Try.prog) Try.func58 (by kernel_rfl) (by kernel_rfl) (by kernel_rfl) (by kernel_rfl) (k := .u32) (y := 1) hc' hz'
  go_enter_d Try.func54, Try.ntmps54
  go_wp2
  go_region_calls
  all_goals (go_end0; exact ⟨rfl, rfl⟩)

set_option maxRecDepth 100000 in
theorem once_unlock (a : Addr) (u : FrameMode) (w : World) (hc : w.cell? a = some (.int .i32 1)) (hz : w.frozen? a = false) :
    CallsD Try.prog 53 #[.pointer (some a)] u w fun e u' w' => u' = u ∧ (e = .returned (.tuple #[]) ∧ w' = w.setCell a (.int .i32 0)) := by
  have hd := race_disable
  have he := race_enable
  have hr := race_release
  have hadd := run_call_add (P := Try.prog) Try.func68 (by kernel_rfl) (by kernel_rfl) (by kernel_rfl) .i32 (by kernel_rfl) (y := -1) (s := 0) hc hz (by simp [go_sem]; rfl)
  have hcv := run_convert_to_unsafe (P := Try.prog) (src := 107) (dst := 111) Try.underlying107 Try.underlying111 (by kernel_rfl) hc
  go_enter_d Try.func53, Try.ntmps53
  go_wp2
  go_end0
  go_wp2
  go_end0
  exact ⟨rfl, rfl⟩

set_option maxRecDepth 100000 in
theorem once_lock (a : Addr) (w : World) (hc : w.cell? a = some (.int .i32 0)) (hz : w.frozen? a = false) :
    Calls Try.prog 52 #[.pointer (some a)] w fun e w' => e = .returned (.tuple #[]) ∧ w' = w.setCell a (.int .i32 1) := by
  have hd := race_disable
  have he := race_enable
  have ha := race_acquire
  have hcas := run_call_cas_hit (P := Try.prog) Try.func63 (by kernel_rfl) (by kernel_rfl) (by kernel_rfl) .i32 (by kernel_rfl) (y := 1) hc hz
  have hc' : (w.setCell a (.int .i32 1)).cell? a = some (.int .i32 1) := World.cell?_setCell_same w a _ hc
  have hcv := run_convert_to_unsafe (P := Try.prog) (src := 107) (dst := 111) Try.underlying107 Try.underlying111 (by kernel_rfl) hc'
  go_enter Try.func52, Try.ntmps52
  go_wp2
  first | go_end0 | (simp only [Exit.inBlock, Exit.then]; refine bodyPost_ret (results_none rfl _ _ _) rfl ?_) | refine bodyPost_ret (results_none rfl _ _ _) rfl ?_
  go_wp2
  go_end0
  exact ⟨rfl, rfl⟩

set_option maxRecDepth 100000 in
theorem once_load (a : Addr) (d : Int) (w : World) (h0 : w.cell? a = some (.int .u32 d)) :
    Calls Try.prog 42 #[.pointer (some a)] w fun e w' => e = .returned (.bool (d != 0)) ∧ w' = w := by
  have hl := run_call_load (P := Try.prog) Try.func51 (by kernel_rfl) (by kernel_rfl) (by kernel_rfl) .u32 (by kernel_rfl) h0
  go_enter Try.func42, Try.ntmps42
  go_wp2
  go_ret
  exact ⟨rfl, rfl⟩
set_option maxRecDepth 100000 in
theorem once_done (a : Addr) (d : Int) (hd : ¬ d = 0) (fv : Value) (w : World) (h0 : w.cell? a = some (.int .u32 d)) :
    Calls Try.prog 30 #[.pointer (some a), fv] w fun e w' => e = .returned (.tuple #[]) ∧ w' = w := by
  have hl := run_call_load (P := Try.prog) Try.func51 (by kernel_rfl) (by kernel_rfl) (by kernel_rfl) .u32 (by kernel_rfl) h0
  have hnot : ∀ (x : Bool) (w : World), (Op.unary .not (.bool x)).run Try.prog w = .ok (.bool (!x)) w := fun _ _ => rfl
  have hd' : (d != 0) = true := by simp [hd]
  go_enter Try.func30, Try.ntmps30
  go_wp2
  go_end0
  exact ⟨rfl, rfl⟩


/-- What the function leaves of the Once. -/
def OnceFn (b o : Nat) (Q : World → Prop) (e : Ending) (w' : World) : Prop :=
  e = .returned (.tuple #[]) ∧ w'.cell? ⟨b, o, none⟩ = some (.int .u32 0) ∧ w'.cell? ⟨b, o + 1, none⟩ = some (.int .i32 1) ∧ w'.frozen? ⟨b, o, none⟩ = false ∧ w'.frozen? ⟨b, o + 1, none⟩ = false ∧ Q w'
/-- The world behind Do, out of the one behind the function. -/
def onceEnd (b o : Nat) (w : World) : World := (w.drew.setCell ⟨b, o, none⟩ (.int .u32 1)).setCell ⟨b, o + 1, none⟩ (.int .i32 0)
def OncePost1 (b o : Nat) (Q : World → Prop) (e : Ending) (w' : World) : Prop := e = .returned (.tuple #[]) ∧ ∃ w1, Q w1 ∧ w1.cell? ⟨b, o, none⟩ = some (.int .u32 0) ∧ w1.cell? ⟨b, o + 1, none⟩ = some (.int .i32 1) ∧ w' = onceEnd b o w1

set_option maxRecDepth 100000 in
set_option maxHeartbeats 1600000 in
theorem once_slow_any (b o : Nat) (K : FuncId) (fi caps : Array Value) (w : World) (Q : World → Prop) (h0 : w.cell? ⟨b, o, none⟩ = some (.int .u32 0)) (h1 : w.cell? ⟨b, o + 1, none⟩ = some (.int .i32 0)) (f0 : w.frozen? ⟨b, o, none⟩ = false) (f1 : w.frozen? ⟨b, o + 1, none⟩ = false)
    (hent : ∀ (args : Array Value) (w : World), (callFunc K args).run Try.prog w = .ok (.enter K args) w) (hcl : Calls Try.prog K (fi ++ caps) (w.setCell ⟨b, o + 1, none⟩ (.int .i32 1)) (OnceFn b o Q)) :
    Calls Try.prog 43 #[.pointer (some ⟨b, o, none⟩), .func (.func K) fi caps] w (OncePost1 b o Q) := by
  have hnot : ∀ (x : Bool) (w : World), (Op.unary .not (.bool x)).run Try.prog w = .ok (.bool (!x)) w := fun _ _ => rfl
  have hl0 : (w.setCell ⟨b, o + 1, none⟩ (.int .i32 1)).cell? ⟨b, o, none⟩ = some (.int .u32 0) := (cell_set_ne (fun e => by simp at e)).trans h0
  have HC := Lib.hid hcl
  clear hcl
  go_enter_defers Try.func43, Try.ntmps43
  go_wp2_with (first
    | (go_at_call 52; refine (once_lock ⟨b, o + 1, none⟩ _ h1 f1).mono ?_; rintro e w' ⟨rfl, rfl⟩)
    | (go_at_call 42; refine (once_load ⟨b, o, none⟩ 0 _ hl0).mono ?_; rintro e w' ⟨rfl, rfl⟩)
    | (refine HC.out.mono ?_; rintro e w2 ⟨rfl, g0, g1, z0, z1, hQ⟩; have X := Lib.hid (And.intro hQ (And.intro g0 g1)); clear hQ))
  have c0 : w2.drew.cell? ⟨b, o, none⟩ = some (.int .u32 0) := g0
  have c1 : (w2.drew.setCell ⟨b, o, none⟩ (.int .u32 1)).cell? ⟨b, o + 1, none⟩ = some (.int .i32 1) := (cell_set_ne (fun e => by simp at e)).trans g1
  have f1' : (w2.drew.setCell ⟨b, o, none⟩ (.int .u32 1)).frozen? ⟨b, o + 1, none⟩ = false := by rw [World.frozen?_setCell]; exact z1
  refine leaves_cons (f := 54) (args := #[.pointer (some ⟨b, o, none⟩), .bool true]) (by simp) (by simp [go_sem]) ?_
  refine (once_store ⟨b, o, none⟩ (.int .u32 0) .returning _ g0 z0).mono ?_
  rintro e u' w'' ⟨rfl, rfl, rfl⟩
  refine leaves_cons (f := 53) (args := #[.pointer (some ⟨b, o + 1, none⟩)]) (by simp [settle]) (by simp [go_sem]) ?_
  refine (once_unlock ⟨b, o + 1, none⟩ _ _ c1 f1').mono ?_
  rintro e u' w'' ⟨rfl, rfl, rfl⟩
  clear c0 c1 f1' g0 g1 z0 z1
  simp [Leaves, settle, results, Try.results43]
  exact ⟨rfl, _, X.out.1, X.out.2.1, X.out.2.2, rfl⟩
set_option maxRecDepth 100000 in
set_option maxHeartbeats 1600000 in
theorem once_any (b o : Nat) (K : FuncId) (fi caps : Array Value) (w : World) (Q : World → Prop) (h0 : w.cell? ⟨b, o, none⟩ = some (.int .u32 0)) (h1 : w.cell? ⟨b, o + 1, none⟩ = some (.int .i32 0)) (f0 : w.frozen? ⟨b, o, none⟩ = false) (f1 : w.frozen? ⟨b, o + 1, none⟩ = false)
    (hent : ∀ (args : Array Value) (w : World), (callFunc K args).run Try.prog w = .ok (.enter K args) w) (hcl : Calls Try.prog K (fi ++ caps) (w.setCell ⟨b, o + 1, none⟩ (.int .i32 1)) (OnceFn b o Q)) :
    Calls Try.prog 30 #[.pointer (some ⟨b, o, none⟩), .func (.func K) fi caps] w (OncePost1 b o Q) := by
  have HC := Lib.hid hcl
  have HEN := Lib.hid hent
  clear hcl hent
  go_enter Try.func30, Try.ntmps30
  go_wp2_with (first
    | (go_at_call 42; refine (once_load ⟨b, o, none⟩ 0 _ h0).mono ?_; rintro e w' ⟨rfl, rfl⟩)
    | (go_at_call 43; refine (once_slow_any b o K fi caps _ Q h0 h1 f0 f1 HEN.out HC.out).mono ?_; rintro e w' hF; obtain rfl : e = .returned (.tuple #[]) := hF.1; have F := Lib.hid hF; clear hF))
  go_end0
  exact F.out
end Go.Proofs.Ytjbomdhlfjcgmaa
