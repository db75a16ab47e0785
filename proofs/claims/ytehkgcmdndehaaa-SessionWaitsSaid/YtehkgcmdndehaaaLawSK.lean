/-
  Chapter 19's example: a frame in two pieces.
-/
import Derived.Test.YtehkgcmdndehaaaSesL
import Derived.Test.YtehkgcmdndehaaaOpenB
namespace Go.Proofs.Ytehkgcmdndehaaa
set_option linter.unusedSimpArgs false
set_option linter.unusedVariables false
open Go.RowKit
attribute [local irreducible] feedAll feedL parseReqC itemCells frameN feedSt

theorem own_len {w : World} {base : Nat} {e : TypeId} {size : Nat} {v : Value} {n : Nat} {xs : List Value} (h : w.ownsRow base e size v n xs) : ∃ a c, v = .slice a n c := by
  rcases h.2 with ⟨rfl, rfl⟩ | ⟨g, cap, cur, rfl, _⟩
  · exact ⟨none, 0, rfl⟩
  · exact ⟨_, _, rfl⟩
theorem items_cells {w : World} {base : Nat} {out : Value} {xs : List (List Value)} (h : w.ownsRow base 56 19 out xs.length (itemsV xs)) (h19 : ∀ x ∈ xs, x.length = 19) (hn : 0 < xs.length) :
    ∃ g cap, out = .slice (some ⟨g, 0, none⟩) xs.length cap ∧ base ≤ g ∧ g < w.heap.size ∧ xs.length ≤ cap ∧ ∀ (i j : Nat) (x : List Value) (u : Value), xs[i]? = some x → x[j]? = some u → w.cell? ⟨g, i * 19 + j, none⟩ = some u := by
  have hl := h.lt
  rcases h.2 with ⟨rfl, h0⟩ | ⟨g, cap, cur, rfl, hb, hg, hc, _⟩
  · omega
  · refine ⟨g, cap, rfl, hb, (hl g rfl).2, hc, fun i j x u hi hj => ?_⟩
    have hx := h19 x (List.mem_of_getElem? hi)
    have hj19 : j < 19 := by have := (List.getElem?_eq_some_iff.1 hj).1; omega
    have := h.cells (g := g) rfl (i * 19 + j) u (by rw [items_at xs i j x h19 hi hj19]; exact hj)
    rwa [Addr.add_lit, Nat.zero_add] at this
/-- A literal of bytes. -/
theorem reads_lit (w : World) (n : Nat) (cs : Array Value) (bs : List UInt8) (h : cs.toList = bcells bs) (hn : n = bs.length) (hm : n ≤ 1000) : Reads (w.alloc (.cells cs 5)) (.slice (some ⟨w.heap.size, 0, none⟩) n n) bs := by
  subst hn
  exact Reads.of_own (own_lit w w.heap.size bs.length cs bs h rfl (Nat.le_refl _) (by unfold maxLen; omega))

theorem frame_k : frameB [5, 1, 107] = [0, 3, 5, 1, 107] := by decide
theorem feed_k1 : feedSt [] false [0, 3, 5] = ([], [0, 3, 5], false) := by
  rw [feedSt_ok]
  have := feed_part [5, 1, 107] 3 (by decide) (by decide) (by decide)
  rw [frame_k] at this
  exact this
theorem feed_k2 : feedSt [0, 3, 5] false [1, 107] = ([itemCells ((showQ ⟨#[107]⟩).cells.toList, 0)], [], false) := by
  rw [feedSt_ok]
  have := feed_frame [5, 1, 107] [] (by decide) (by decide)
  rw [frame_k, feed_nil, show ([5, 1, 107] : List UInt8) = 5 :: encText ⟨#[107]⟩ by decide, parse_show _ (by decide)] at this
  exact this
theorem itemCells_eq (p : List Value × Int) : itemCells p = p.1 ++ [.int .i64 p.2] := by unfold itemCells; rfl

set_option maxHeartbeats 1600000 in
set_option maxRecDepth 100000 in
theorem l19_known (w : World) : Calls Try.prog 21 #[] w (TrueBelow w) := by
  go_enter Try.func21, Try.ntmps21
  go_upto_region 4 with (go_at_call 23; refine (ses_new _).mono ?_; rintro e w1 ⟨rfl, hS, hB⟩; have X1 := Lib.hid (And.intro hS hB); clear hS hB)
  have hne1 : Hid (w.heap.size < w1.heap.size) := Lib.hid X1.out.1.lt
  generalize hb : w.heap.size = b at *
  have HB := Lib.hid hb
  clear hb
  have R1 : Hid (Reads (w1.alloc (.cells #[.int .u8 0, .int .u8 3, .int .u8 5] 5)) (.slice (some ⟨w1.heap.size, 0, none⟩) 3 3) [0, 3, 5]) := Lib.hid (reads_lit w1 3 _ _ rfl rfl (by decide))
  have A1 : Hid (SesAt (w1.alloc (.cells #[.int .u8 0, .int .u8 3, .int .u8 5] 5)) b 0 (.slice none 0 0) [] false) := Lib.hid (X1.out.1.on (below_alloc _ _))
  go_upto_region 5 with (go_at_call 24; refine (ses_feed2 b 0 (.slice none 0 0) [] false _ [0, 3, 5] _ A1.out (.inr ⟨rfl, rfl, rfl, rfl⟩) R1.out ⟨fun e => by have := hne1.out; injection e with e; exact absurd (show w1.heap.size = b from e) (by omega), fun k _ e => by cases e⟩ (by decide)).mono ?_; rintro e w2 ⟨v2, o2, rfl, hs, hf, ho⟩; rw [feed_k1] at hs ho; have X2 := Lib.hid (And.intro hs (And.intro hf ho)); clear hs hf ho)
  obtain ⟨a2, c2, ho2⟩ := own_len X2.out.2.2
  subst ho2
  have R2 : Hid (Reads (w2.alloc (.cells #[.int .u8 1, .int .u8 107] 5)) (.slice (some ⟨w2.heap.size, 0, none⟩) 2 2) [1, 107]) := Lib.hid (reads_lit w2 2 _ _ rfl rfl (by decide))
  have A2 : Hid (SesAt (w2.alloc (.cells #[.int .u8 1, .int .u8 107] 5)) b 1 v2 [0, 3, 5] false) := Lib.hid (X2.out.1.on (below_alloc _ _))
  have N2 : Hid (∀ k, v2.ownBlock = some k → k < w2.heap.size) := Lib.hid (fun k hk => (X2.out.1.own.lt k hk).2)
  go_upto_region 6 with (go_at_call 24; refine (ses_feed2 b 1 v2 [0, 3, 5] false _ [1, 107] _ A2.out (.inl rfl) R2.out ⟨fun e => by have := X2.out.1.lt; injection e with e; exact absurd (show w2.heap.size = b from e) (by omega), fun k hk e => by have := N2.out k e; injection hk with hk; exact absurd (show w2.heap.size = k from hk) (by omega)⟩ (by decide)).mono ?_; rintro e w3 ⟨v3, o3, rfl, hs, hf, ho⟩; rw [feed_k2] at hs ho; have X3 := Lib.hid (And.intro hs (And.intro hf ho)); clear hs hf ho)
  obtain ⟨g, cap, ho3, hg, hg2, hcap, hcells⟩ := items_cells X3.out.2.2 (by have h := feedSt_19 [0, 3, 5] false [1, 107]; rw [feed_k2] at h; exact h) (by decide)
  subst ho3
  have k18 : w3.cell? ⟨g, 18, none⟩ = some (.int .i64 0) := hcells 0 18 _ _ rfl (by rw [itemCells_eq]; rfl)
  have k1 : w3.cell? ⟨g, 1, none⟩ = some (.string ⟨#[107]⟩) := hcells 0 1 _ _ rfl (by rw [itemCells_eq]; rfl)
  have hc1 : 1 ≤ cap := hcap
  have F : Hid (Below b w w3) := Lib.hid ((((X1.out.2.trans ((below_alloc w1 _).mono (by have := hne1.out; omega))).trans (X2.out.2.1.below A1.out)).trans ((below_alloc w2 _).mono (by have := X2.out.1.lt; omega))).trans (X3.out.2.1.below A2.out))
  clear hcells hg hg2 hcap
  go_wp2
  go_ret
  exact ⟨ret_bool (by first | rfl | simp), by rw [HB.out]; exact F.out⟩
end Go.Proofs.Ytehkgcmdndehaaa
