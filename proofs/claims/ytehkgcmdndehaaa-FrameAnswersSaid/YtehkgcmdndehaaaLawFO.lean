import Derived.Test.YtehkgcmdndehaaaRefG
import Derived.Test.YtehkgcmdndehaaaRefP
import Derived.Test.YtehkgcmdndehaaaRefF
import Derived.Test.YtehkgcmdndehaaaAnsN
import Derived.Test.YtehkgcmdndehaaaAnsP
import Derived.Test.YtehkgcmdndehaaaLawFF
import Derived.Test.YtehkgcmdndehaaaApB
import Derived.Deep.RegionHeld3
namespace Go.Proofs.Ytehkgcmdndehaaa
set_option linter.unusedSimpArgs false
set_option linter.unusedVariables false
open Go.RowKit

theorem eql_ans (a : AnsD) (w : World) : (binOp .eql 38 (.agg a.cells) (.agg a.cells)).run Try.prog w = .ok (.bool true) w := by
  unfold AnsD.cells
  go_simp

/-- A frame, or that there is none. -/
def framed (zs : List UInt8) : List UInt8 × Int := if zs.length = 0 ∨ 512 < zs.length then ([], 5) else (frameB zs, 0)
def FramePost (w : World) (p : List UInt8 × Int) (e : Ending) (w' : World) : Prop := ∃ v, e = .returned (.tuple #[v, .int .i64 p.2]) ∧ Reads w' v p.1 ∧ Below w.heap.size w w'
theorem fr_frame (v : Value) (zs : List UInt8) (w : World) (h : Reads w v zs) : Calls Try.prog 15 #[v] w (FramePost w (framed zs)) := by
  unfold framed
  by_cases hn : zs.length = 0 ∨ 512 < zs.length
  · rw [if_pos hn]
    obtain ⟨a, c, rfl⟩ := h.len
    exact (fr_frame_no a _ c w hn).mono fun e w' ⟨he, hB⟩ => ⟨_, he, Reads.nil _, hB⟩
  · rw [if_neg hn]
    exact (fr_frame_ok v zs w h (by omega) (by omega)).mono fun e w' ⟨v, he, ho, hB⟩ => ⟨v, he, Reads.of_own ho, hB⟩
theorem ref_frame (v : Value) (zs : List UInt8) (w : World) (h : Reads w v zs) : Calls Try.prog 19 #[v] w (FramePost w (framed zs)) := by
  unfold framed
  by_cases hn : zs.length = 0 ∨ 512 < zs.length
  · rw [if_pos hn]
    obtain ⟨a, c, rfl⟩ := h.len
    exact (ref_frame_no a _ c w hn).mono fun e w' ⟨he, hB⟩ => ⟨_, he, Reads.nil _, hB⟩
  · rw [if_neg hn]
    exact (ref_frame_ok v zs w h (by omega) (by omega)).mono fun e w' ⟨v, he, ho, hB⟩ => ⟨v, he, Reads.of_own ho, hB⟩

theorem parse_name (bs : List UInt8) : (parseAns bs).1.stmt.name.size ≤ 255 := by
  have h0 : stmtZ.name.size ≤ 255 := by decide
  have hs : ∀ r : Rd, (strB r.str.1).size ≤ 255 := fun r => by
    rw [strB_size]
    unfold Rd.str
    simp only
    split
    · simp
    · rw [Rd.take_length]; unfold Rd.one; have := ((r.take 1).1.getD 0 0).toNat_lt; simp only [Int.toNat_natCast]; omega
  unfold parseAns
  simp only
  repeat' split
  all_goals first
    | exact h0
    | exact hs _

/-- A value that was stored into a block just made. -/
theorem row_made (w : World) (cs cs0 : Array Value) (T : TypeId) : Below w.heap.size w ((w.alloc (.cells cs0 T)).setRow w.heap.size cs) ∧ ((w.alloc (.cells cs0 T)).setRow w.heap.size cs).heap[w.heap.size]? = some (.cells cs T (0, 0)) ∧ ((w.alloc (.cells cs0 T)).setRow w.heap.size cs).heap.size = w.heap.size + 1 :=
  ⟨below_setRow (below_alloc w _) (Nat.le_refl _) _, setRow_heap _ _ _ _ _ _ (heap_alloc_new _ _), by simp⟩

set_option maxHeartbeats 800000 in
set_option maxRecDepth 100000 in
theorem frameAnswers_out (a : AnsD) (vb : Value) (zs : List UInt8) (w : World) (hz : Reads w vb zs) (h : a.err < 0 ∨ 255 < a.err ∨ 255 < a.stmt.name.size ∨ 2000 < zs.length) :
    Calls Try.prog 5 #[.agg a.cells, vb] w (TrueBelow w) := by
  obtain ⟨a1, c1, rfl⟩ := hz.len
  clear hz
  have hc : ∀ w1, Below (w.heap.size + 1) (w.alloc (.cells a.cells 38)) w1 → w1.cell? ⟨w.heap.size, 0, none⟩ = some (.int .i64 a.err) ∧ w1.cell? ⟨w.heap.size, 4, none⟩ = some (.string a.stmt.name) ∧ Below w.heap.size w w1 := fun w1 hB => by
    refine ⟨(hB.cell (p := ⟨w.heap.size, 0, none⟩) (by simp)).trans ?_, (hB.cell (p := ⟨w.heap.size, 4, none⟩) (by simp)).trans ?_, (below_alloc _ _).trans (hB.mono (by simp))⟩
    · rw [World.cell?_alloc_at _ _ _ _ rfl]; rfl
    · rw [World.cell?_alloc_at _ _ _ _ rfl]; rfl
  have HC := Lib.hid hc
  clear hc
  by_cases h0 : a.err < 0
  · clear h
    go_enter Try.func5, Try.ntmps5
    go_wp2_with fail
    refine (l18_known _).mono ?_
    rintro e w1 ⟨rfl, hB1⟩
    obtain ⟨k0, k4, hB⟩ := HC.out w1 (by simpa using hB1)
    go_wp2
    go_ret
    exact ⟨rfl, hB⟩
  · have b0 : decide (a.err < 0) = false := by simpa using h0
    by_cases h1 : 255 < a.err
    · clear h
      go_enter Try.func5, Try.ntmps5
      go_wp2_with fail
      refine (l18_known _).mono ?_
      rintro e w1 ⟨rfl, hB1⟩
      obtain ⟨k0, k4, hB⟩ := HC.out w1 (by simpa using hB1)
      go_wp2
      go_ret
      exact ⟨rfl, hB⟩
    · by_cases h2 : 255 < a.stmt.name.size
      · clear h
        go_enter Try.func5, Try.ntmps5
        go_wp2_with fail
        refine (l18_known _).mono ?_
        rintro e w1 ⟨rfl, hB1⟩
        obtain ⟨k0, k4, hB⟩ := HC.out w1 (by simpa using hB1)
        go_wp2
        go_ret
        exact ⟨rfl, hB⟩
      · have h3 : 2000 < zs.length := by omega
        clear h
        go_enter Try.func5, Try.ntmps5
        go_wp2_with fail
        refine (l18_known _).mono ?_
        rintro e w1 ⟨rfl, hB1⟩
        obtain ⟨k0, k4, hB⟩ := HC.out w1 (by simpa using hB1)
        go_wp2
        go_ret
        exact ⟨rfl, hB⟩

end Go.Proofs.Ytehkgcmdndehaaa
