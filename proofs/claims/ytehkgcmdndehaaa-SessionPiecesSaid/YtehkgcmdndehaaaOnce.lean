/-
  sync.Once in one goroutine: Do with a function given by its contract. (161, 165: the types of internal/sync's *Mutex and of unsafe.Pointer in this seat: see the operations of its Lock.)
-/
import Derived.Test.YtehkgcmdndehaaaRecMod
import Derived.Test.YtehkgcmdndehaaaRefW
import Derived.Laws.MakeOwn
import Derived.Tactics
import Derived.Tactics2
import Derived.Defers
import Derived.Laws.Pointers
import Derived.Laws.LoneSync
import Derived.RegionTactic
import Derived.RegionCalls
import Derived.ChangeAlike
namespace Go.Proofs.Ytehkgcmdndehaaa
set_option linter.unusedSimpArgs false
set_option linter.unusedVariables false
open Go.RowKit

theorem race_disable (w : World) : (callFunc 91 #[]).run Try.prog w = .ok (.value (.tuple #[])) w := run_call_mark0 Try.func91 (by kernel_rfl) (by kernel_rfl) (by kernel_rfl) .disable (by kernel_rfl) w
theorem race_enable (w : World) : (callFunc 93 #[]).run Try.prog w = .ok (.value (.tuple #[])) w := run_call_mark0 Try.func93 (by kernel_rfl) (by kernel_rfl) (by kernel_rfl) .enable (by kernel_rfl) w
theorem race_acquire (a : Addr) (w : World) : (callFunc 94 #[.pointer (some a)]).run Try.prog w = .ok (.value (.tuple #[])) w := run_call_marked Try.func94 (by kernel_rfl) (by kernel_rfl) (by kernel_rfl) .acquire (by kernel_rfl) a w
theorem race_release (a : Addr) (w : World) : (callFunc 96 #[.pointer (some a)]).run Try.prog w = .ok (.value (.tuple #[])) w := run_call_marked Try.func96 (by kernel_rfl) (by kernel_rfl) (by kernel_rfl) .releaseMerge (by kernel_rfl) a w

set_option maxRecDepth 100000 in
theorem once_store (a : Addr) (x : Value) (u : FrameMode) (w : World) (hc : w.cell? a = some x) (hz : w.frozen? a = false) :
    CallsD Try.prog 80 #[.pointer (some a), .bool true] u w fun e u' w' => u' = u ∧ (e = .returned (.tuple #[]) ∧ w' = w.drew.setCell a (.int .u32 1)) := by
  have hc' : w.drew.cell? a = some x := by go_simp
  have hz' : w.drew.frozen? a = false := by go_simp
  have hst := run_call_store (P := Try.prog) Try.func84 (by kernel_rfl) (by kernel_rfl) (by kernel_rfl) (by kernel_rfl) (k := .u32) (y := 1) hc' hz'
  go_enter_d Try.func80, Try.ntmps80
  go_wp2
  go_region_calls
  all_goals (go_end0; exact ⟨rfl, rfl⟩)

set_option maxRecDepth 100000 in
theorem once_unlock (a : Addr) (u : FrameMode) (w : World) (hc : w.cell? a = some (.int .i32 1)) (hz : w.frozen? a = false) :
    CallsD Try.prog 79 #[.pointer (some a)] u w fun e u' w' => u' = u ∧ (e = .returned (.tuple #[]) ∧ w' = w.setCell a (.int .i32 0)) := by
  have hd := race_disable
  have he := race_enable
  have hr := race_release
  have hadd := run_call_add (P := Try.prog) Try.func97 (by kernel_rfl) (by kernel_rfl) (by kernel_rfl) .i32 (by kernel_rfl) (y := -1) (s := 0) hc hz (by simp [go_sem]; rfl)
  have hcv := run_convert_to_unsafe (P := Try.prog) (src := 161) (dst := 165) Try.underlying161 Try.underlying165 (by kernel_rfl) hc
  go_enter_d Try.func79, Try.ntmps79
  go_wp2
  go_end0
  go_wp2
  go_end0
  exact ⟨rfl, rfl⟩

set_option maxRecDepth 100000 in
theorem once_lock (a : Addr) (w : World) (hc : w.cell? a = some (.int .i32 0)) (hz : w.frozen? a = false) :
    Calls Try.prog 78 #[.pointer (some a)] w fun e w' => e = .returned (.tuple #[]) ∧ w' = w.setCell a (.int .i32 1) := by
  have hd := race_disable
  have he := race_enable
  have ha := race_acquire
  have hcas := run_call_cas_hit (P := Try.prog) Try.func92 (by kernel_rfl) (by kernel_rfl) (by kernel_rfl) .i32 (by kernel_rfl) (y := 1) hc hz
  have hc' : (w.setCell a (.int .i32 1)).cell? a = some (.int .i32 1) := World.cell?_setCell_same w a _ hc
  have hcv := run_convert_to_unsafe (P := Try.prog) (src := 161) (dst := 165) Try.underlying161 Try.underlying165 (by kernel_rfl) hc'
  go_enter Try.func78, Try.ntmps78
  go_wp2
  first | go_end0 | (simp only [Exit.inBlock, Exit.then]; refine bodyPost_ret (results_none rfl _ _ _) rfl ?_) | refine bodyPost_ret (results_none rfl _ _ _) rfl ?_
  go_wp2
  go_end0
  exact ⟨rfl, rfl⟩

set_option maxRecDepth 100000 in
theorem once_load (a : Addr) (d : Int) (w : World) (h0 : w.cell? a = some (.int .u32 d)) :
    Calls Try.prog 68 #[.pointer (some a)] w fun e w' => e = .returned (.bool (d != 0)) ∧ w' = w := by
  have hl := run_call_load (P := Try.prog) Try.func77 (by kernel_rfl) (by kernel_rfl) (by kernel_rfl) .u32 (by kernel_rfl) h0
  go_enter Try.func68, Try.ntmps68
  go_wp2
  go_ret
  exact ⟨rfl, rfl⟩
set_option maxRecDepth 100000 in
theorem once_done (a : Addr) (d : Int) (hd : ¬ d = 0) (fv : Value) (w : World) (h0 : w.cell? a = some (.int .u32 d)) :
    Calls Try.prog 51 #[.pointer (some a), fv] w fun e w' => e = .returned (.tuple #[]) ∧ w' = w := by
  have hl := run_call_load (P := Try.prog) Try.func77 (by kernel_rfl) (by kernel_rfl) (by kernel_rfl) .u32 (by kernel_rfl) h0
  have hnot : ∀ (x : Bool) (w : World), (Op.unary .not (.bool x)).run Try.prog w = .ok (.bool (!x)) w := fun _ _ => rfl
  have hd' : (d != 0) = true := by simp [hd]
  go_enter Try.func51, Try.ntmps51
  go_wp2
  go_end0
  exact ⟨rfl, rfl⟩

/-- What the first 'Do' leaves of a session's block b: the Once is done, its lock free, the bytes are a row of none. -/
def InitPost (w : World) (b : Nat) (S : Nat → Prop) (e : Ending) (w' : World) : Prop :=
  e = .returned (.tuple #[]) ∧ Mods w w' b S ∧ ∃ g, w'.cell? ⟨b, 3, none⟩ = some (.slice (some ⟨g, 0, none⟩) 0 514) ∧ OwnB w' (b + 1) (.slice (some ⟨g, 0, none⟩) 0 514) [] ∧ w.heap.size ≤ g

theorem InitPost.drew {w w' : World} {b : Nat} {S : Nat → Prop} {e : Ending} (h : InitPost w b S e w') : InitPost w b S e w'.drew := by
  obtain ⟨h1, h2, g, h3, h4, h5⟩ := h
  exact ⟨h1, h2.drew, g, h3, h4, h5⟩
/-- The bytes that a session begins with. -/
def zs514 : Array Value := madeCells #[.int .u8 0] 514

set_option maxHeartbeats 800000 in
set_option maxRecDepth 100000 in
theorem feed_init (b : Nat) (pl : Addr) (x3 : Value) (w : World) (hp : w.cell? pl = some (.pointer (some ⟨b, 0, none⟩))) (hpb : pl.block ≠ b) (h3 : w.cell? ⟨b, 3, none⟩ = some x3) (f3 : w.frozen? ⟨b, 3, none⟩ = false) (hb : b < w.heap.size) :
    Calls Try.prog 52 #[.pointer (some pl)] w (InitPost w b (fun o => o = 3)) := by
  obtain ⟨i0, hi, hz0, hz1, hz2⟩ := info_parts infoU8
  have hmk : ∀ w : World, (Instr.makeSlice 28 (.int .i64 0) (.int .i64 514)).run Try.prog w = .ok (.slice (some ⟨w.heap.size, 0, none⟩) 0 514) (w.alloc (.cells zs514 5)) := fun w => by
    have := run_make (P := Try.prog) w 28 5 i0 (.int .u8 0) Try.underlying28 hi hz0 .i64 .i64 0 514 (by omega) (by omega) (by rw [hz2]; omega) (by omega)
    rw [hz1] at this
    exact this
  have hfin : ∀ v, v = Value.slice (some ⟨w.heap.size, 0, none⟩) 0 514 → InitPost w b (fun o => o = 3) (.returned (.tuple #[])) ((w.alloc (.cells zs514 5)).setCell ⟨b, 3, none⟩ v) := by
    rintro v rfl
    have hB := below_alloc w (.cells zs514 5)
    have hc : (w.alloc (.cells zs514 5)).cell? ⟨b, 3, none⟩ = some x3 := (hB.cell (p := ⟨b, 3, none⟩) hb).trans h3
    refine ⟨rfl, (Mods.of_below hB hb).trans (Mods.of_setCell rfl), w.heap.size, cell_set_same hc, ?_, Nat.le_refl _⟩
    have ho : (w.alloc (.cells zs514 5)).ownsRow (b + 1) 5 1 (.slice (some ⟨w.heap.size, 0, none⟩) 0 514) 0 [] := by
      refine ⟨rfl, .inr ⟨w.heap.size, 514, zs514, rfl, by omega, heap_alloc_new _ _, by omega, by unfold maxLen; omega, by simp [zs514, size_madeCells], by simp⟩⟩
    have := ownsRow_setCell_other ho (a := ⟨b, 3, none⟩) (by simp [Value.ownBlock]; omega) (.slice (some ⟨w.heap.size, 0, none⟩) 0 514)
    exact this
  have HF := Lib.hid hfin
  have hBa := below_alloc w (.cells zs514 5)
  have hpl : pl.block < w.heap.size := World.block_lt_of_cell? w _ hp
  have hpa : (w.alloc (.cells zs514 5)).cell? pl = some (.pointer (some ⟨b, 0, none⟩)) := (hBa.cell hpl).trans hp
  have h3a : (w.alloc (.cells zs514 5)).cell? ⟨b, 3, none⟩ = some x3 := (hBa.cell (p := ⟨b, 3, none⟩) hb).trans h3
  have f3a : (w.alloc (.cells zs514 5)).frozen? ⟨b, 3, none⟩ = false := (hBa.frozen (p := ⟨b, 3, none⟩) hb).trans f3
  clear hfin hi hBa
  go_enter Try.func52, Try.ntmps52
  go_wp2
  go_region
  all_goals (try go_wp2)
  all_goals go_end0
  all_goals
    have F := HF.out _ rfl
    rw [World.setCell_alloc_past _ _ _ _ hb] at F
    first
      | exact F.drew
      | exact F

/-- What the first 'Do' leaves. -/
def FirstPost (w : World) (b : Nat) (e : Ending) (w' : World) : Prop :=
  InitPost w b (fun o => o < 4) e w' ∧ w'.cell? ⟨b, 0, none⟩ = some (.int .u32 1) ∧ w'.cell? ⟨b, 1, none⟩ = some (.int .i32 0)

set_option maxRecDepth 100000 in
set_option maxHeartbeats 1600000 in
theorem once_slow (b : Nat) (pl : Addr) (x3 : Value) (w : World) (hp : w.cell? pl = some (.pointer (some ⟨b, 0, none⟩))) (hpb : pl.block ≠ b) (hb : b < w.heap.size)
    (h0 : w.cell? ⟨b, 0, none⟩ = some (.int .u32 0)) (h1 : w.cell? ⟨b, 1, none⟩ = some (.int .i32 0)) (h3 : w.cell? ⟨b, 3, none⟩ = some x3) (hf : ∀ o, w.frozen? ⟨b, o, none⟩ = false) :
    Calls Try.prog 69 #[.pointer (some ⟨b, 0, none⟩), .func (.func 52) #[] #[.pointer (some pl)]] w (FirstPost w b) := by
  have M1 : Mods w (w.setCell ⟨b, 1, none⟩ (.int .i32 1)) b (fun o => o = 1) := Mods.of_setCell rfl
  have hl0 : (w.setCell ⟨b, 1, none⟩ (.int .i32 1)).cell? ⟨b, 0, none⟩ = some (.int .u32 0) := (M1.row 0 (by omega)).trans h0
  have hpl : pl.block < w.heap.size := World.block_lt_of_cell? w _ hp
  have hp1 : (w.setCell ⟨b, 1, none⟩ (.int .i32 1)).cell? pl = some (.pointer (some ⟨b, 0, none⟩)) := (World.cell?_of_block (M1.block _ hpl hpb)).trans hp
  have h31 : (w.setCell ⟨b, 1, none⟩ (.int .i32 1)).cell? ⟨b, 3, none⟩ = some x3 := (M1.row 3 (by omega)).trans h3
  have f31 : (w.setCell ⟨b, 1, none⟩ (.int .i32 1)).frozen? ⟨b, 3, none⟩ = false := (M1.frz 3).trans (hf 3)
  have b1 : b < (w.setCell ⟨b, 1, none⟩ (.int .i32 1)).heap.size := Nat.lt_of_lt_of_le hb M1.size
  have h11 : (w.setCell ⟨b, 1, none⟩ (.int .i32 1)).cell? ⟨b, 1, none⟩ = some (.int .i32 1) := cell_set_same h1
  have f1 := hf 1
  have hnot : ∀ (x : Bool) (w : World), (Op.unary .not (.bool x)).run Try.prog w = .ok (.bool (!x)) w := fun _ _ => rfl
  have HM1 := Lib.hid (And.intro M1 h11)
  have HF := Lib.hid hf
  clear M1 h11 hf
  go_enter_defers Try.func69, Try.ntmps69
  go_wp2_with (first
    | (go_at_call 78; refine (once_lock ⟨b, 1, none⟩ _ (by go_simp) (by go_simp)).mono ?_; rintro e w' ⟨rfl, rfl⟩)
    | (go_at_call 68; refine (once_load ⟨b, 0, none⟩ 0 _ hl0).mono ?_; rintro e w' ⟨rfl, rfl⟩)
    | (go_at_call 52; refine (feed_init b pl x3 _ hp1 hpb h31 f31 b1).mono ?_; rintro e w2 ⟨rfl, hm2, g, h23, ho2, hg2⟩; have X2 := Lib.hid (And.intro hm2 (And.intro h23 (And.intro ho2 hg2))); clear hm2 h23 ho2 hg2))
  have M2 : Mods w2 w2.drew b (fun o => o < 4) := (Mods.refl _ _ _).drew
  have M3 : Mods w2.drew (w2.drew.setCell ⟨b, 0, none⟩ (.int .u32 1)) b (fun o => o = 0) := Mods.of_setCell rfl
  have M4 : Mods (w2.drew.setCell ⟨b, 0, none⟩ (.int .u32 1)) ((w2.drew.setCell ⟨b, 0, none⟩ (.int .u32 1)).setCell ⟨b, 1, none⟩ (.int .i32 0)) b (fun o => o = 1) := Mods.of_setCell rfl
  have c20 : w2.cell? ⟨b, 0, none⟩ = some (.int .u32 0) := (X2.out.1.row 0 (by omega)).trans hl0
  have f20 : w2.frozen? ⟨b, 0, none⟩ = false := ((X2.out.1.frz 0).trans (HM1.out.1.frz 0)).trans (HF.out 0)
  have c31 : (w2.drew.setCell ⟨b, 0, none⟩ (.int .u32 1)).cell? ⟨b, 1, none⟩ = some (.int .i32 1) := (M3.row 1 (by omega)).trans ((X2.out.1.row 1 (by omega)).trans HM1.out.2)
  have f31' : (w2.drew.setCell ⟨b, 0, none⟩ (.int .u32 1)).frozen? ⟨b, 1, none⟩ = false := (M3.frz 1).trans (((X2.out.1.frz 1).trans (HM1.out.1.frz 1)).trans (HF.out 1))
  have FIN : Hid (FirstPost w b (.returned (.tuple #[])) ((w2.drew.setCell ⟨b, 0, none⟩ (.int .u32 1)).setCell ⟨b, 1, none⟩ (.int .i32 0))) := Lib.hid (by
    have hown : (w2.drew).ownsRow (b + 1) 5 1 (.slice (some ⟨g, 0, none⟩) 0 514) 0 [] := X2.out.2.2.1
    have hgb : g ≠ b := by have := X2.out.2.2.2; simp [World.setCell] at this; omega
    have ho3 := ownsRow_setCell_other hown (a := ⟨b, 0, none⟩) (by simp [Value.ownBlock]; exact hgb) (.int .u32 1)
    have ho4 := ownsRow_setCell_other ho3 (a := ⟨b, 1, none⟩) (by simp [Value.ownBlock]; exact hgb) (.int .i32 0)
    refine ⟨⟨rfl, (((HM1.out.1.mono (fun o h => by omega)).trans ((X2.out.1.mono (fun o h => by omega)).trans M2)).trans (M3.mono (fun o h => by omega))).trans (M4.mono (fun o h => by omega)), g, ?_, ho4, by have := X2.out.2.2.2; simpa [World.setCell] using this⟩, ?_, cell_set_same c31⟩
    · rw [M4.row 3 (by omega), M3.row 3 (by omega)]; exact X2.out.2.1
    · rw [M4.row 0 (by omega)]; exact cell_set_same c20)
  clear M2 M3 M4 X2 HM1 hl0
  refine leaves_cons (f := 80) (args := #[.pointer (some ⟨b, 0, none⟩), .bool true]) (by simp) (by simp [go_sem]) ?_
  refine (once_store ⟨b, 0, none⟩ (.int .u32 0) .returning _ c20 f20).mono ?_
  rintro e u' w'' ⟨rfl, rfl, rfl⟩
  refine leaves_cons (f := 79) (args := #[.pointer (some ⟨b, 1, none⟩)]) (by simp [settle]) (by simp [go_sem]) ?_
  refine (once_unlock ⟨b, 1, none⟩ _ _ c31 f31').mono ?_
  rintro e u' w'' ⟨rfl, rfl, rfl⟩
  have F := FIN.out
  clear FIN
  simp [Leaves, settle, results, Try.results69]
  exact F

set_option maxRecDepth 100000 in
set_option maxHeartbeats 1600000 in
theorem once_first (b : Nat) (pl : Addr) (x3 : Value) (w : World) (hp : w.cell? pl = some (.pointer (some ⟨b, 0, none⟩))) (hpb : pl.block ≠ b) (hb : b < w.heap.size)
    (h0 : w.cell? ⟨b, 0, none⟩ = some (.int .u32 0)) (h1 : w.cell? ⟨b, 1, none⟩ = some (.int .i32 0)) (h3 : w.cell? ⟨b, 3, none⟩ = some x3) (hf : ∀ o, w.frozen? ⟨b, o, none⟩ = false) :
    Calls Try.prog 51 #[.pointer (some ⟨b, 0, none⟩), .func (.func 52) #[] #[.pointer (some pl)]] w (FirstPost w b) := by
  have HF := Lib.hid hf
  clear hf
  go_enter Try.func51, Try.ntmps51
  go_wp2_with (first
    | (go_at_call 68; refine (once_load ⟨b, 0, none⟩ 0 _ h0).mono ?_; rintro e w' ⟨rfl, rfl⟩)
    | (go_at_call 69; refine (once_slow b pl x3 _ hp hpb hb h0 h1 h3 HF.out).mono ?_; rintro e w' hF; obtain rfl : e = .returned (.tuple #[]) := hF.1.1; have F := Lib.hid hF; clear hF))
  go_end0
  exact F.out
end Go.Proofs.Ytehkgcmdndehaaa
