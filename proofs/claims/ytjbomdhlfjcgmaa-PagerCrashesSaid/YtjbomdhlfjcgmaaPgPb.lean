/-
  The laws of pagers: without, holds.
-/
import Derived.Test.YtjbomdhlfjcgmaaPgPa
import Derived.Deep.MidRow
import Derived.Deep.RegionHeldLaw
import Derived.Deep.QuietTactic
import Derived.BigQuiet
namespace Go.Proofs.Ytjbomdhlfjcgmaa
set_option linter.unusedSimpArgs false
set_option linter.unusedVariables false
open Go.RowKit

def woP (ps : List PageD) (x : Int) : List PageD := ps.filter (fun p => decide ((p.1 : Int) ≠ x))
theorem woP_len (ps : List PageD) (x : Int) : (woP ps x).length ≤ ps.length := List.length_filter_le _ _
theorem woP_take_yes {ps : List PageD} {x : Int} {k : Nat} {p : PageD} (hp : ps[k]? = some p) (hx : (p.1 : Int) ≠ x) : woP (ps.take (k + 1)) x = woP (ps.take k) x ++ [p] := by
  rw [List.take_add_one, hp]
  unfold woP
  rw [List.filter_append]
  simp [hx]
theorem woP_take_no {ps : List PageD} {x : Int} {k : Nat} {p : PageD} (hp : ps[k]? = some p) (hx : (p.1 : Int) = x) : woP (ps.take (k + 1)) x = woP (ps.take k) x := by
  rw [List.take_add_one, hp]
  unfold woP
  rw [List.filter_append]
  simp [hx]
def WoPost (w : World) (qs : List PageD) (e : Ending) (w' : World) : Prop := ∃ v', e = .returned v' ∧ PRow w' w.heap.size v' qs ∧ Below w.heap.size w w'

theorem Appd.below_own {w0 w w' : World} {v v' : Value} {ps : List PageD} (h : Appd w w' v v') (hr : PRow w w0.heap.size v ps) (hB : Below w0.heap.size w0 w) : Below w0.heap.size w w' :=
  ⟨h.keeps.os, h.keeps.tape, h.keeps.output, h.keeps.size, fun k hk => h.keeps.block k (by have := hB.size; omega) (fun e => by have := (hr.blk k e).1; omega)⟩
set_option maxHeartbeats 1600000 in
set_option maxRecDepth 100000 in
theorem law3_without {w : World} {base : Nat} {v : Value} {ps : List PageD} (h : PRow w base v ps) (hl : ps.length ≤ 90000) (x : Int) (hw : (Lit.int .i64 x).wf = true) :
    Calls Try.prog 23 #[v, .int .i64 x] w (WoPost w (woP ps x)) := by
  obtain ⟨a, c, rfl⟩ := h.len
  have H := Lib.hid (And.intro h hl)
  have hlb : (ps.length : Int) ≤ 90000 := by omega
  clear h hl
  go_enter Try.func23, Try.ntmps23
  go_upto_region 3 with (fail)
  go_loopg [5, 6] ps.length (fun g s5 s6 wr => ∃ k : Nat, k + g = ps.length ∧ s6 = .int .i64 k ∧ PRow wr w.heap.size s5 (woP (ps.take k) x) ∧ Below w.heap.size w wr)
  case atStart => exact ⟨0, by omega, rfl, PRow.nil _ _, Below.refl _ _⟩
  case round =>
    obtain ⟨k, hkg, rfl, hr, hB⟩ := hrel
    obtain ⟨wB, rfl⟩ : ∃ x : World, x = wr := ⟨_, rfl⟩
    cases gk with
    | zero =>
      obtain rfl : k = ps.length := by omega
      rw [List.take_length] at hr
      obtain ⟨ao, co, rfl⟩ := hr.len
      have HA := Lib.hid (And.intro hr hB)
      have hk : ¬ (ps.length : Int) < (ps.length : Int) := by omega
      clear hkg hr hB
      go_wp2
      go_ret
      exact ⟨_, rfl, HA.out.1, HA.out.2⟩
    | succ g =>
      obtain ⟨ao, co, rfl⟩ := hr.len
      have HA := Lib.hid (And.intro hr (And.intro hB hkg))
      clear hr hB
      have hk : (k : Int) < (ps.length : Int) := by omega
      have hkn : k < ps.length := by omega
      obtain ⟨p, hp⟩ : ∃ p, ps[k]? = some p := ⟨_, List.getElem?_eq_getElem hkn⟩
      have hpw : PRow wB base (.slice a ps.length c) ps := H.out.1.below HA.out.2.1
      obtain ⟨_, g0, rfl⟩ := hpw.form (by omega)
      obtain ⟨kc, kc2⟩ := hpw.cell k p hp
      have HP := Lib.hid (And.intro hp hpw)
      have HR : Hid (wB.rangeAt g0 (k * 2) [.int .i64 (p.1 : Int), .string (strB p.2)]) := Lib.hid (fun j u hj => by
        match j, hj with
        | 0, hj => cases hj; exact kc
        | 1, hj => cases hj; exact kc2)
      clear hkg hp hpw
      by_cases hx : (p.1 : Int) = x
      · have HX := Lib.hid hx
        go_wp2
        go_roundg g
        case measure => omega
        case rel =>
          refine ⟨k + 1, by have := HA.out.2.2; omega, by simp, ?_, HA.out.2.1⟩
          rw [woP_take_no HP.out.1 HX.out]
          exact HA.out.1
      · have HX := Lib.hid hx
        go_wp2_with (first
          | (refine wpList_load_mid rfl 51 (.tmp 23) rfl g0 (k * 2) rfl [.int .i64 (p.1 : Int), .string (strB p.2)] _ (HR.out)  Try.underlying51 rfl (by kernel_rfl) ?_)
          | (at_builtin; go_must (refine wpList_append_page rfl (.tmp 20) (.tmp 25) rfl wB w.heap.size (.slice ao (woP (ps.take k) x).length co) (woP (ps.take k) x) p rfl HA.out.1 HA.out.2.1.size rfl (by have := woP_len (ps.take k) x; have := H.out.2; rw [List.length_take] at *; omega) ?_; intro g7 c7 w7 hrow hap; have X7 := Lib.hid (And.intro hrow hap); clear hrow hap)))
        go_roundg g
        case measure => omega
        case rel =>
          refine ⟨k + 1, by have := HA.out.2.2; omega, by simp, ?_, HA.out.2.1.trans (X7.out.2.below_own HA.out.1 HA.out.2.1)⟩
          rw [woP_take_yes HP.out.1 HX.out]
          exact X7.out.1

set_option maxHeartbeats 1600000 in
set_option maxRecDepth 100000 in
theorem law3_holds {w0 w : World} {pb db : Nat} {F G : Nat → Prop} {D : DiskS} {S : PgS} {C : Comm} (h : UpB w0 w pb db F G D S C) {base : Nat} {v : Value} {ps : List PageD} (hr : PRow w base v ps) (hl : ps.length ≤ 90000) (hf : ∀ k, v.ownBlock = some k → k ≠ pb)
    (rt : List UInt8) (hrt : C.root = rt) (hp : ∀ p ∈ ps, nowP S C p.1 = some p.2) :
    Calls Try.prog 26 #[.pointer (some ⟨pb, 0, none⟩), v, .string (strB rt)] w (fun e w' => e = .returned (.bool true) ∧ UpB w0 w' pb db F G D S C) := by
  obtain ⟨a, c, rfl⟩ := hr.len
  have HU := Lib.hid (And.intro h (And.intro hr (And.intro hl (And.intro hf (And.intro hrt hp)))))
  have hlb : (ps.length : Int) ≤ 90000 := by omega
  clear h hr hl hf hrt hp
  go_enter Try.func26, Try.ntmps26
  go_upto_region 3 with (go_at_call 15; go_must (have HRT := up_root HU.out.1.up; rw [HU.out.2.2.2.2.1] at HRT; refine HRT.mono ?_; clear HRT; rintro e w1 ⟨v1, rfl, hr1, _, hB1⟩; obtain ⟨a1, c1, rfl⟩ := hr1.len; have hc1 : (convert 22 9 (.slice a1 rt.length c1)).run Try.prog w1 = .ok (.string (strB rt)) w1 := run_string_of 22 9 5 Try.underlying22 Try.underlying5 Try.underlying9 hr1; have X1 : Hid (UpB w0 w1 pb db F G D S C ∧ PRow w1 base (.slice a ps.length c) ps) := Lib.hid ⟨HU.out.1.below hB1, HU.out.2.1.below hB1⟩; clear hr1 hB1))
  go_upto_region 4 with (fail)
  go_loopg [7, 8, 9] ps.length (fun g s7 s8 s9 wr => ∃ k : Nat, k + g = ps.length ∧ s7 = .int .i64 k ∧ UpB w0 wr pb db F G D S C ∧ PRow wr base (.slice a ps.length c) ps)
  case atStart => exact ⟨0, by omega, rfl, X1.out⟩
  case round =>
    obtain ⟨k, hkg, rfl, hu, hr⟩ := hrel
    obtain ⟨wB, rfl⟩ : ∃ x : World, x = wr := ⟨_, rfl⟩
    have HA := Lib.hid (And.intro hu (And.intro hr hkg))
    clear hu
    cases gk with
    | zero =>
      have hk : ¬ (k : Int) < (ps.length : Int) := by omega
      clear hkg hr
      go_wp2
      go_ret
      exact ⟨rfl, HA.out.1⟩
    | succ g =>
      have hk : (k : Int) < (ps.length : Int) := by omega
      have hkn : k < ps.length := by omega
      obtain ⟨p, hp⟩ : ∃ p, ps[k]? = some p := ⟨_, List.getElem?_eq_getElem hkn⟩
      obtain ⟨_, g0, rfl⟩ := hr.form (by omega)
      obtain ⟨kc, _⟩ := hr.cell k p hp
      have HP := Lib.hid (And.intro hp (HU.out.2.2.2.2.2 p (List.mem_of_getElem? hp)))
      clear hkg hp hr
      go_upto_region 7 with (go_at_call 14; go_must (refine (ub_read HA.out.1 p.1 p.2 HP.out.2).mono ?_; rintro e w2 ⟨a2, c2, rfl, hr2, _, hup2, hk2⟩; have X2 : Hid (UpB w0 w2 pb db F G D S C ∧ PRow w2 base (.slice (some ⟨g0, 0, none⟩) ps.length c) ps ∧ Reads w2 (.slice a2 p.2.length c2) p.2) := Lib.hid ⟨hup2, HA.out.2.1.keeps hk2 (fun j hj e => HU.out.2.2.2.1 j hj e), hr2⟩; clear hr2 hup2 hk2))
      have kc2 : ∀ m, (w2.drewN m).cell? ⟨g0, k * 2 + 1, none⟩ = some (.string (strB p.2)) := fun m => (X2.out.2.1.cell k p HP.out.1).2
      have hc2 : ∀ m, (convert 22 9 (.slice a2 p.2.length c2)).run Try.prog (w2.drewN m) = .ok (.string (strB p.2)) (w2.drewN m) := fun m => run_string_of 22 9 5 Try.underlying22 Try.underlying5 Try.underlying9 (X2.out.2.2.drewN m)
      have kc3 : w2.cell? ⟨g0, k * 2 + 1, none⟩ = some (.string (strB p.2)) := kc2 0
      clear kc
      go_wp2
      go_quiet (fail)
      go_wp2
      go_roundg g
      case measure => omega
      case rel => exact ⟨k + 1, by have := HA.out.2.2; omega, by simp, X2.out.1.drewN _, X2.out.2.1⟩
end Go.Proofs.Ytjbomdhlfjcgmaa
