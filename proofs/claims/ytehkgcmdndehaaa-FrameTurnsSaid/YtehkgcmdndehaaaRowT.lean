import Derived.Test.YtehkgcmdndehaaaRow
namespace Go.Proofs.Ytehkgcmdndehaaa
set_option linter.unusedSimpArgs false
set_option linter.unusedVariables false
open Go.RowKit

set_option maxHeartbeats 1600000 in
set_option maxRecDepth 100000 in
theorem frow_text (rb nb off c : Nat) (v : Value) (xs : List UInt8) (ss : List ByteArray) (w : World) (hr : RowAt w rb v xs) (hb : rb < w.heap.size) (hl : Fits (xs.length + (encTexts ss).length)) (hm : ss.length < 1000)
    (hnb : nb < w.heap.size) (hnr : nb ≠ rb) (hnv : v.ownBlock ≠ some nb) (hss : ∀ k s, ss[k]? = some s → w.cell? ⟨nb, off + k, none⟩ = some (.string s)) :
    Calls Try.prog 38 #[.pointer (some ⟨rb, 0, none⟩), .slice (some ⟨nb, off, none⟩) ss.length c] w (PutPost w rb v (xs ++ encTexts ss)) := by
  obtain ⟨i0, hi, hz0, hz1, hz2⟩ := info_parts infoU8
  have HN := Lib.hid hss
  clear hss
  go_enter Try.func38, Try.ntmps38
  go_wp2
  go_loopg [5, 8] ss.length (fun g s5 s8 wr => ∃ (k : Nat) (vr : Value), k + g = ss.length ∧ s8 = .int .i64 k ∧ RowAt wr rb vr (xs ++ encTexts (ss.take k)) ∧ Puts w wr rb v vr)
  case atStart => exact ⟨0, v, by omega, rfl, by simpa [encTexts] using hr, Puts.refl _ _ _⟩
  case round =>
    obtain ⟨k, vr, hkg, rfl, hrow, hput⟩ := hrel
    have hsz := hput.size
    cases gk with
    | zero =>
      have hk : ¬ ((k : Int) < (ss.length : Int)) := by omega
      have F := Lib.hid hrow
      clear hrow
      go_wp2
      go_end0
      refine ⟨_, rfl, ?_, hput⟩
      have := F.out
      rwa [List.take_of_length_le (by omega)] at this
    | succ g =>
      obtain ⟨s, hs⟩ : ∃ s, ss[k]? = some s := ⟨_, List.getElem?_eq_getElem (by omega)⟩
      have hk : (k : Int) < (ss.length : Int) := by omega
      have hc := (hput.cell (a := ⟨nb, off + k, none⟩) hnb hnr hnv).trans (HN.out k s hs)
      have HL := encTexts_take ss k s hs
      have hle := encTexts_take_le ss (k + 1)
      rw [HL, List.length_append, encText_length] at hle
      have hf1 : Fits ((xs ++ encTexts (ss.take k)).length + 1) := hl.le (by rw [List.length_append]; omega)
      have hf2 : Fits ((xs ++ encTexts (ss.take k) ++ [byteOf s.size]).length + s.size) := hl.le (by rw [List.length_append, List.length_append, List.length_singleton]; omega)
      generalize hz : xs ++ encTexts (ss.take k) = zs at *
      have H := Lib.hid (And.intro hs (And.intro HL hz))
      have hrb : rb < wr.heap.size := by omega
      have HR := Lib.hid (And.intro hrow hput)
      clear hs HL hle hz hput hrow
      go_wp2_with fail
      refine (frow_byte rb vr zs s.size wr HR.out.1 hrb hf1).mono ?_
      rintro e w1 ⟨v1, rfl, hrow1, hput1⟩
      have hsz1 := hput1.size
      have hrb1 : rb < w1.heap.size := by omega
      have hpos : 0 < (zs ++ [byteOf s.size]).length := by simp
      generalize hzb : zs ++ [byteOf s.size] = zb at *
      have HZ := Lib.hid hzb
      obtain ⟨g1, cap1, rfl, _⟩ := hrow1.own.form hpos
      obtain ⟨hc1, hfr1, hown1⟩ := hrow1
      clear hzb
      go_wp2_with (at_builtin; refine wpList_append_str _ rfl (.tmp 20) (.tmp 21) 28 9 rfl (rb + 1) 5 i0 Try.underlying28 Try.underlying9 hi hz0 hz1 hz2 _ _ _ rfl hown1 s rfl hf2.max hf2.reach' (by omega) ?_)
      intro v2 w2 hown2 hgrow2 hat2
      obtain ⟨k0, e0, fin⟩ := row_grown (v' := v2) (ys := s.data.toList) ⟨hc1, hfr1, hown1⟩ hrb1 (Below.refl _ w1) hgrow2
      obtain ⟨g2, cap2, rfl, _⟩ := hown2.form (by omega)
      have F := Lib.hid (fin hown2 (by rcases hat2 with h | h; exact .inl h.symm; exact .inr ⟨_, h, by omega⟩))
      clear fin hown2 hown1 hc1 hfr1 hat2
      go_wp2
      go_roundg g
      case measure => omega
      case rel =>
        refine ⟨k + 1, _, by omega, by first | rfl | go_num, ?_, (HR.out.2.trans hput1).trans F.out.2⟩
        rw [H.out.2.1, ← List.append_assoc, H.out.2.2, show zs ++ encText s = zb ++ s.data.toList by rw [← HZ.out, List.append_assoc]; rfl]
        exact F.out.1

/-- Texts in a new block, put. -/
theorem frow_texts (rb nb m : Nat) (cs : Array Value) (T : TypeId) (v : Value) (xs : List UInt8) (ss : List ByteArray) (w wx : World) (hr : RowAt w rb v xs) (hb : rb < w.heap.size) (hl : Fits (xs.length + (encTexts ss).length)) (hlen : ss.length < 1000)
    (hm : m = ss.length) (hB : Below w.heap.size w wx) (hnb : w.heap.size ≤ nb) (hblk : wx.heap[nb]? = some (.cells cs T (0, 0))) (hcs : cs = (ss.map Value.string).toArray) :
    Calls Try.prog 38 #[.pointer (some ⟨rb, 0, none⟩), .slice (some ⟨nb, 0, none⟩) m m] wx (PutPost w rb v (xs ++ encTexts ss)) := by
  subst hm
  subst hcs
  have hlt : nb < wx.heap.size := (Array.getElem?_eq_some_iff.1 hblk).1
  have hsz := hB.size
  refine (frow_text rb nb 0 ss.length v xs ss wx (hr.of_below hb hB) (by omega) hl hlen hlt (by omega) (fun e => by have := hr.own.lt nb e; omega) (fun k n hn => ?_)).mono ?_
  · rw [Nat.zero_add, cell_of_row wx _ _ _ _ _ hblk]; simp [hn]
  · rintro e w' ⟨v', he, hrow, hput⟩
    exact ⟨v', he, hrow, Puts.from_below hb hB hput⟩
end Go.Proofs.Ytehkgcmdndehaaa
