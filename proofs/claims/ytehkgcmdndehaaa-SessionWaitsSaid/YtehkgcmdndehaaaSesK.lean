/-
  A session's calls: New, Broken, Waits, Feed whether broken or not.
-/
import Derived.Test.YtehkgcmdndehaaaFeed
namespace Go.Proofs.Ytehkgcmdndehaaa
set_option linter.unusedSimpArgs false
set_option linter.unusedVariables false
open Go.RowKit
attribute [local irreducible] feedAll feedL parseReqC itemCells frameN

def NewPost (w : World) (e : Ending) (w' : World) : Prop := e = .returned (.pointer (some ⟨w.heap.size, 0, none⟩)) ∧ SesAt w' w.heap.size 0 (.slice none 0 0) [] false ∧ Below w.heap.size w w'
set_option maxHeartbeats 400000 in
set_option maxRecDepth 100000 in
theorem ses_new (w : World) : Calls Try.prog 23 #[] w (NewPost w) := by
  go_enter Try.func23, Try.ntmps23
  go_upto_region 1 with (fail)
  go_step
  refine wpList_build_at _ rfl 112 _ rfl #[.int .u32 0, .int .i32 0, .int .u32 0, .slice none 0 0, .bool false] (by kernel_rfl) ?_
  have hblk := heap_alloc_new w (.cells #[.int .u32 0, .int .i32 0, .int .u32 0, .slice none 0 0, .bool false] 112)
  have F : Hid (NewPost w (.returned (.pointer (some ⟨w.heap.size, 0, none⟩))) (w.alloc (.cells #[.int .u32 0, .int .i32 0, .int .u32 0, .slice none 0 0, .bool false] 112))) := Lib.hid
    ⟨rfl, ⟨by rw [cell_of_row _ _ _ _ _ _ hblk]; rfl, by rw [cell_of_row _ _ _ _ _ _ hblk]; rfl, by rw [cell_of_row _ _ _ _ _ _ hblk]; rfl, by rw [cell_of_row _ _ _ _ _ _ hblk]; rfl, fun o => frozen_of_row _ _ _ _ _ hblk, by simp, OwnB.nil _ _⟩, below_alloc _ _⟩
  clear hblk
  go_wp2
  go_ret
  exact F.out

set_option maxHeartbeats 400000 in
set_option maxRecDepth 100000 in
theorem ses_broken {w : World} {b : Nat} {d : Int} {v : Value} {bs : List UInt8} {brk : Bool} (h : SesAt w b d v bs brk) :
    Calls Try.prog 25 #[.pointer (some ⟨b, 0, none⟩)] w fun e w' => e = .returned (.bool brk) ∧ w = w' := by
  have c4 := h.c4
  clear h
  go_enter Try.func25, Try.ntmps25
  go_wp2
  go_ret
  exact ⟨rfl, rfl⟩
set_option maxHeartbeats 400000 in
set_option maxRecDepth 100000 in
theorem ses_waits {w : World} {b : Nat} {d : Int} {v : Value} {bs : List UInt8} {brk : Bool} (h : SesAt w b d v bs brk) :
    Calls Try.prog 26 #[.pointer (some ⟨b, 0, none⟩)] w fun e w' => e = .returned (.int .i64 bs.length) ∧ w = w' := by
  obtain ⟨a, c, rfl⟩ := (Reads.of_own h.own).len
  have c3 := h.c3
  clear h
  go_enter Try.func26, Try.ntmps26
  go_wp2
  go_ret
  exact ⟨rfl, rfl⟩

/-- What a session answers to bytes zs. -/
def feedSt (bs : List UInt8) (brk : Bool) (zs : List UInt8) : List (List Value) × List UInt8 × Bool := if brk = true then ([], bs, true) else feedAll (bs ++ zs)
theorem feedSt_ok (bs zs : List UInt8) : feedSt bs false zs = feedAll (bs ++ zs) := rfl
theorem feedSt_brk (bs zs : List UInt8) : feedSt bs true zs = ([], bs, true) := rfl
set_option maxHeartbeats 1600000 in
set_option maxRecDepth 100000 in
theorem ses_feed_broken (b : Nat) (v : Value) (bs : List UInt8) (a : Option Addr) (n c : Nat) (W : World) (h : SesAt W b 1 v bs true) :
    Calls Try.prog 24 #[.pointer (some ⟨b, 0, none⟩), .slice a n c] W (FeedPost W b v [] bs true) := by
  have hmf : ∀ (fn : Fn) (first cap : Array Value) (w : World), (Instr.makeFunc fn first cap).run Try.prog w = .ok (.func fn first cap) w := fun _ _ _ _ => rfl
  have H := Lib.hid h
  clear h
  go_enter Try.func24, Try.ntmps24
  go_upto_region 1 with (fail)
  have hBa := below_alloc W (.cells #[.pointer (some ⟨b, 0, none⟩)] 50)
  have hp0 : (W.alloc (.cells #[.pointer (some ⟨b, 0, none⟩)] 50)).cell? ⟨W.heap.size, 0, none⟩ = some (.pointer (some ⟨b, 0, none⟩)) := by rw [World.cell?_alloc_at _ _ _ _ rfl]; rfl
  generalize W.alloc (.cells #[.pointer (some ⟨b, 0, none⟩)] 50) = W0 at *
  have X0 : Hid (SesAt W0 b 1 v bs true ∧ Below W.heap.size W W0 ∧ W.heap.size ≠ b ∧ v.ownBlock ≠ some W.heap.size ∧ W.heap.size < W0.heap.size) := Lib.hid ⟨H.out.on hBa, hBa, by have := H.out.lt; omega, fun e => by have := H.out.own.lt _ e; omega, World.block_lt_of_cell? W0 _ hp0⟩
  have P0 := Lib.hid hp0
  clear hBa
  generalize hpl : W.heap.size = pl at *
  have HPL := Lib.hid hpl
  clear hpl
  go_upto_region 2 with (go_at_call 51; refine (ses_once ⟨pl, 0, none⟩ X0.out.1 (.inl rfl) P0.out X0.out.2.2.1).mono ?_; rintro e w1 ⟨v1, rfl, hs, hf⟩; have X1 := Lib.hid (And.intro hs hf); clear hs hf)
  have k0 : w1.cell? ⟨pl, 0, none⟩ = some (.pointer (some ⟨b, 0, none⟩)) := (X1.out.2.cell (a := ⟨pl, 0, none⟩) X0.out.2.2.2.2 X0.out.2.2.1 X0.out.2.2.2.1).trans P0.out
  have c4 := X1.out.1.c4
  have F : Hid (FeedPost W b v [] bs true (.returned (.slice none 0 0)) w1) := Lib.hid ⟨v1, _, rfl, X1.out.1, (Fed.of_below (by rw [HPL.out]; exact X0.out.2.1)).trans X1.out.2, World.ownsRow_nil _ _ _ _⟩
  clear hp0
  go_wp2
  go_ret
  exact F.out
theorem ses_feed2 (b : Nat) (d : Int) (v : Value) (bs : List UInt8) (brk : Bool) (vb : Value) (zs : List UInt8) (W : World) (h : SesAt W b d v bs brk) (hd : d = 1 ∨ (d = 0 ∧ v = .slice none 0 0 ∧ bs = [] ∧ brk = false)) (hz : Reads W vb zs) (hvb : vb.ownBlock ≠ some b ∧ ∀ k, vb.ownBlock = some k → v.ownBlock ≠ some k) (hl : (bs ++ zs).length ≤ 1000000) :
    Calls Try.prog 24 #[.pointer (some ⟨b, 0, none⟩), vb] W (FeedPost W b v (feedSt bs brk zs).1 (feedSt bs brk zs).2.1 (feedSt bs brk zs).2.2) := by
  cases brk with
  | true =>
    have hd1 : d = 1 := by rcases hd with h | h; (· exact h); · cases h.2.2.2
    subst hd1
    obtain ⟨a, c, rfl⟩ := hz.len
    exact ses_feed_broken b v bs a _ c W h
  | false => exact ses_feed b d v bs vb zs W h (hd.imp id fun h => ⟨h.1, h.2.1, h.2.2.1⟩) hz hvb hl
/-- A session's block and bytes lie from block b on. -/
theorem Fed.below {w w' : World} {b : Nat} {v v' : Value} {d : Int} {bs : List UInt8} {brk : Bool} (h : Fed w w' b v v') (hs : SesAt w b d v bs brk) : Below b w w' :=
  ⟨h.os, h.tape, h.output, h.size, fun k hk => h.block k (by have := hs.lt; omega) (by omega) (fun e => by have := hs.own.lt k e; omega)⟩
theorem Fed.other {w w' : World} {b : Nat} {v v' : Value} (h : Fed w w' b v v') {k : Nat} (hk : k < w.heap.size) (hv : v.ownBlock ≠ some k) : v'.ownBlock ≠ some k := by
  intro e
  rcases h.new with h' | h' | ⟨m, h', hm⟩
  · exact hv (h'.symm.trans e)
  · rw [h'] at e; cases e
  · rw [h'] at e; cases e; omega
/-- Each item has nineteen cells. -/
theorem feed_19 (bs : List UInt8) : ∀ x ∈ (feedAll bs).1, x.length = 19 := by
  have h : ∀ (n : Nat) (bs : List UInt8), bs.length < n → ∀ x ∈ (feedAll bs).1, x.length = 19 := by
    intro n
    induction n with
    | zero => intro bs h; omega
    | succ n ih =>
      intro bs hn x hx
      by_cases h1 : bs.length < 2
      · rw [feedAll_few bs h1] at hx; cases hx
      by_cases h2 : frameN bs = 0 ∨ 512 < frameN bs
      · rw [feedAll_bad bs h1 h2] at hx
        simp at hx
        subst hx
        rfl
      by_cases h3 : bs.length < 2 + frameN bs
      · rw [feedAll_wait bs h1 h2 h3] at hx; cases hx
      rw [feedAll_item bs h1 h2 h3] at hx
      rcases List.mem_cons.1 hx with rfl | hx
      · obtain ⟨q, hq⟩ := parseReqC_shape ((bs.drop 2).take (frameN bs))
        rw [show ∀ p, itemCells p = p.1 ++ [.int .i64 p.2] from fun p => by unfold itemCells; rfl, hq]
        rfl
      · exact ih _ (by rw [List.length_drop]; omega) x hx
  exact h _ bs (Nat.lt_succ_self _)
theorem feedSt_19 (bs : List UInt8) (brk : Bool) (zs : List UInt8) : ∀ x ∈ (feedSt bs brk zs).1, x.length = 19 := by
  cases brk with
  | true => intro x hx; rw [feedSt_brk] at hx; cases hx
  | false => exact feed_19 _
/-- A cell of an item in a row of items. -/
theorem items_at : ∀ (xs : List (List Value)) (i j : Nat) (x : List Value), (∀ x ∈ xs, x.length = 19) → xs[i]? = some x → j < 19 → (itemsV xs)[i * 19 + j]? = x[j]?
  | [], i, j, x, _, h, _ => by simp at h
  | y :: ys, 0, j, x, hl, h, hj => by
    simp at h
    subst h
    have hy : y.length = 19 := hl y List.mem_cons_self
    rw [show itemsV (y :: ys) = y ++ itemsV ys from rfl, Nat.zero_mul, Nat.zero_add, List.getElem?_append_left (by omega)]
  | y :: ys, i + 1, j, x, hl, h, hj => by
    have hy : y.length = 19 := hl y List.mem_cons_self
    rw [show itemsV (y :: ys) = y ++ itemsV ys from rfl, List.getElem?_append_right (by omega), hy, show (i + 1) * 19 + j - 19 = i * 19 + j by omega]
    exact items_at ys i j x (fun x hx => hl x (List.mem_cons_of_mem _ hx)) (by simpa using h) hj
end Go.Proofs.Ytehkgcmdndehaaa
