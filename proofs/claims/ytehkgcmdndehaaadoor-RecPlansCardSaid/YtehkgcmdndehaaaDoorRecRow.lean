import Derived.Test.YtehkgcmdndehaaaDoorKit
import Derived.WalkSpells
import Derived.WalkLawsBesides
import Derived.Deep.RegionLaw
import Derived.Deep.LoopGhost
import Derived.Deep.DeepFit
import Derived.Deep.DeepMust
namespace Go.Proofs.YtehkgcmdndehaaaDoor
set_option linter.unusedSimpArgs false
set_option linter.unusedVariables false
open Go.RowKit

set_option maxHeartbeats 400000 in
set_option maxRecDepth 100000 in
theorem rrow_byte (rb : Nat) (v : Value) (xs : List UInt8) (n : Int) (w : World) (hr : RowAt w rb v xs) (hb : rb < w.heap.size) (hl : Fits (xs.length + 1)) :
    Calls Tryd.prog 55 #[.pointer (some ⟨rb, 0, none⟩), .int .i64 n] w (PutPost w rb v (xs ++ [byteOf n])) := by
  obtain ⟨i0, hi, hz0, hz1, hz2⟩ := info_parts infoU8
  have hc := hr.cell
  have hf := hr.free
  have hown := hr.own
  go_enter Tryd.func55, Tryd.ntmps55
  go_wp2_with (at_builtin; refine wpList_append_lies _ rfl (.tmp 8) (.tmp 11) 29 rfl (rb + 1) 5 i0 (.int .u8 0) 1 1 Tryd.underlying29 hi hz0 hz1 hz2 rfl (by decide) v xs.length (bcells xs) rfl (hown.alloc _) ⟨w.heap.size, 0, none⟩ 1 1 (bcells [byteOf n]) rfl rfl ?c1 (bcells_oneCell _) (by decide) hl.max hl.reach (by simp; omega) (w.heap.size + 1) (by simp) ?_)
  case c1 => intro j u hj; match j, hj with | 0, hj => simp [bcells, byteOf_mod] at hj; subst hj; simp [Addr.add]
  intro g cap w1 hown1 hgrow hg hlt
  obtain ⟨k0, e0, fin⟩ := row_grown (v' := .slice (some ⟨g, 0, none⟩) (xs.length + 1) cap) (ys := [byteOf n]) hr hb (below_alloc w _) hgrow
  have F := Lib.hid (fin hown1 (own_of_lies hg (by omega)))
  clear fin hr hc hf hown hown1
  go_wp2
  go_end0
  exact ⟨_, rfl, F.out⟩

set_option maxHeartbeats 1600000 in
set_option maxRecDepth 100000 in
theorem rrow_int (rb nb off c : Nat) (v : Value) (xs : List UInt8) (ns : List Int) (w : World) (hr : RowAt w rb v xs) (hb : rb < w.heap.size) (hl : Fits (xs.length + 8 * ns.length)) (hm : ns.length < 1000)
    (hnb : nb < w.heap.size) (hnr : nb ≠ rb) (hnv : v.ownBlock ≠ some nb) (hns : ∀ k n, ns[k]? = some n → w.cell? ⟨nb, off + k, none⟩ = some (.int .i64 n)) :
    Calls Tryd.prog 56 #[.pointer (some ⟨rb, 0, none⟩), .slice (some ⟨nb, off, none⟩) ns.length c] w (PutPost w rb v (xs ++ encInts ns)) := by
  obtain ⟨i0, hi, hz0, hz1, hz2⟩ := info_parts infoU8
  have HN := Lib.hid hns
  clear hns
  go_enter Tryd.func56, Tryd.ntmps56
  go_wp2
  go_loopg [5, 6, 9] ns.length (fun g s5 s6 s9 wr => ∃ (k : Nat) (vr : Value), k + g = ns.length ∧ s9 = .int .i64 k ∧ RowAt wr rb vr (xs ++ encInts (ns.take k)) ∧ Puts w wr rb v vr)
  case atStart => exact ⟨0, v, by omega, rfl, by simpa [encInts] using hr, Puts.refl _ _ _⟩
  case round =>
    obtain ⟨k, vr, hkg, rfl, hrow, hput⟩ := hrel
    have hsz := hput.size
    cases gk with
    | zero =>
      have hk : ¬ ((k : Int) < (ns.length : Int)) := by omega
      have F := Lib.hid hrow
      clear hrow
      go_wp2
      go_end0
      refine ⟨_, rfl, ?_, hput⟩
      have := F.out
      rwa [List.take_of_length_le (by omega)] at this
    | succ g =>
      obtain ⟨n, hn⟩ : ∃ n, ns[k]? = some n := ⟨_, List.getElem?_eq_getElem (by omega)⟩
      have hk : (k : Int) < (ns.length : Int) := by omega
      have hc := (hput.cell (a := ⟨nb, off + k, none⟩) hnb hnr hnv).trans (HN.out k n hn)
      have HL := encInts_take ns k n hn
      have H := Lib.hid (And.intro hn HL)
      clear hn HL
      have hln := encInts_take_length ns k
      obtain ⟨hrb, hnb'⟩ : rb < wr.heap.size ∧ nb < wr.heap.size := by omega
      go_wp2
      go_loopg [6] 8 (fun g2 s6 wy => ∃ (j : Nat) (vy : Value), j + g2 = 8 ∧ s6 = .int .i64 ((g2 : Int) - 1) ∧ RowAt wy rb vy (xs ++ encInts (ns.take k) ++ (encInt n).take j) ∧ Puts wr wy rb vr vy)
      case atStart => exact ⟨0, vr, by omega, rfl, by simpa using hrow, Puts.refl _ _ _⟩
      case round =>
        obtain ⟨j, vy, hjg, e6, hrow2, hput2⟩ := hrel
        have hsz2 := hput2.size
        cases gk with
        | zero =>
          subst e6
          have X := Lib.hid (And.intro hrow2 hput2)
          clear hrow2 hput2
          go_wp2
          go_roundg g
          case measure => omega
          case rel =>
            refine ⟨k + 1, vy, by omega, by first | rfl | go_num, ?_, hput.trans X.out.2⟩
            have := X.out.1
            rw [List.take_of_length_le (l := encInt n) (by rw [encInt_length]; omega)] at this
            rw [H.out.2, ← List.append_assoc]
            exact this
        | succ g2 =>
          obtain rfl : u6 = .int .i64 g2 := by rw [e6]; congr 1; omega
          have hg8 : g2 < 8 := by omega
          have hg0 : (0 : Int) ≤ (g2 : Int) := by omega
          have hg8' : (g2 : Int) < 8 := by omega
          have w8 : IntKind.i64.wrap (8 * (g2 : Int)) = 8 * (g2 : Int) := IntWalk.i64_in _ (by omega)
          have s0 : (0 : Int) ≤ 8 * (g2 : Int) := by omega
          have s1 : 8 * (g2 : Int) ≤ 64 := by omega
          have s2 : (8 * (g2 : Int)).toNat = 8 * g2 := by omega
          have hfit : Fits ((xs ++ encInts (ns.take k) ++ (encInt n).take j).length + 1) := hl.le (by
            rw [List.length_append, List.length_append, List.length_take, encInt_length]; omega)
          generalize hz : xs ++ encInts (ns.take k) ++ (encInt n).take j = zs at *
          have HZ := Lib.hid hz
          have HR := Lib.hid (And.intro hrow2 hput2)
          have hrb2 : rb < wr.heap.size := by omega
          obtain ⟨hc, hf, hown⟩ := hrow2
          have hne : wr.heap.size ≠ rb := by omega
          clear e6 hrow hz hput2
          go_wp2
          go_region_law (first
            | (refine step_append_lies _ rfl (.tmp 21) (.tmp 27) 29 rfl (rb + 1) 5 i0 (.int .u8 0) 1 1 Tryd.underlying29 hi hz0 hz1 hz2 rfl (by decide) vy _ _ rfl (hown.drew.alloc _) ⟨wr.heap.size, 0, none⟩ 1 1 (bcells [byteOf (n / 2 ^ (8 * g2))]) rfl rfl (news_one _ _ _ (wrap_byteOf _) _) (bcells_oneCell _) (by decide) hfit.max hfit.reach (by simp; omega) (wr.heap.size + 1) (by simp) ?_
               intro g' cap w1 hown1 hgrow hg hlt
               obtain ⟨k0, e0, fin⟩ := row_grown (v' := .slice (some ⟨g', 0, none⟩) (zs.length + 1) cap) (ys := [byteOf (n / 2 ^ (8 * g2))]) HR.out.1 (by omega) (below_alloc wr _).drew hgrow
               have F := Lib.hid (fin hown1 (own_of_lies hg (by omega)))
               clear fin hown1))
          all_goals clear hown hc hf
          all_goals go_wp2
          all_goals go_roundg g2
          all_goals first
            | (case measure => omega)
            | skip
          all_goals
            refine ⟨j + 1, _, by omega, by first | rfl | go_num, ?_, HR.out.2.trans F.out.2⟩
            rw [encInt_take n j g2 (by omega), ← List.append_assoc, HZ.out]
            exact F.out.1

set_option maxHeartbeats 1600000 in
set_option maxRecDepth 100000 in
theorem rrow_text (rb : Nat) (v : Value) (zs : List UInt8) (s : ByteArray) (w : World) (hr : RowAt w rb v zs) (hb : rb < w.heap.size) (hl : Fits (zs.length + (encText s).length)) :
    Calls Tryd.prog 54 #[.pointer (some ⟨rb, 0, none⟩), .string s] w (PutPost w rb v (zs ++ encText s)) := by
  obtain ⟨i0, hi, hz0, hz1, hz2⟩ := info_parts infoU8
  have hf1 : Fits (zs.length + 1) := hl.le (by rw [encText_length]; omega)
  have hf2 : Fits ((zs ++ [byteOf s.size]).length + s.size) := hl.le (by rw [List.length_append, List.length_singleton, encText_length]; omega)
  have HR := Lib.hid hr
  clear hr hl
  go_enter Tryd.func54, Tryd.ntmps54
  go_wp2_with fail
  refine (rrow_byte rb v zs s.size w HR.out hb hf1).mono ?_
  rintro e w1 ⟨v1, rfl, hrow1, hput1⟩
  have hsz1 := hput1.size
  have hrb1 : rb < w1.heap.size := by omega
  have hpos : 0 < (zs ++ [byteOf s.size]).length := by simp
  generalize hzb : zs ++ [byteOf s.size] = zb at *
  have HZ := Lib.hid hzb
  obtain ⟨g1, cap1, rfl, _⟩ := hrow1.own.form hpos
  obtain ⟨hc1, hfr1, hown1⟩ := hrow1
  clear hzb
  go_wp2_with (at_builtin; refine wpList_append_str _ rfl (.tmp 12) (.tmp 13) 29 9 rfl (rb + 1) 5 i0 Tryd.underlying29 Tryd.underlying9 hi hz0 hz1 hz2 _ _ _ rfl hown1 s rfl hf2.max hf2.reach' (by omega) ?_)
  intro v2 w2 hown2 hgrow2 hat2
  obtain ⟨k0, e0, fin⟩ := row_grown (v' := v2) (ys := s.data.toList) ⟨hc1, hfr1, hown1⟩ hrb1 (Below.refl _ w1) hgrow2
  obtain ⟨g2, cap2, rfl, _⟩ := hown2.form (by omega)
  have F := Lib.hid (fin hown2 (by rcases hat2 with h | h; exact .inl h.symm; exact .inr ⟨_, h, by omega⟩))
  clear fin hown2 hown1 hc1 hfr1 hat2
  go_wp2
  go_end0
  refine ⟨_, rfl, ?_, hput1.trans F.out.2⟩
  rw [show zs ++ encText s = zb ++ s.data.toList by rw [← HZ.out, List.append_assoc]; rfl]
  exact F.out.1

/-- Numbers in a new block, put. -/
theorem rrow_ints (rb nb m : Nat) (cs : Array Value) (T : TypeId) (v : Value) (xs : List UInt8) (ns : List Int) (w wx : World) (hr : RowAt w rb v xs) (hb : rb < w.heap.size) (hl : Fits (xs.length + 8 * ns.length)) (hlen : ns.length < 1000)
    (hm : m = ns.length) (hB : Below w.heap.size w wx) (hnb : w.heap.size ≤ nb) (hblk : wx.heap[nb]? = some (.cells cs T (0, 0))) (hcs : cs = (ns.map (Value.int .i64)).toArray) :
    Calls Tryd.prog 56 #[.pointer (some ⟨rb, 0, none⟩), .slice (some ⟨nb, 0, none⟩) m m] wx (PutPost w rb v (xs ++ encInts ns)) := by
  subst hm
  subst hcs
  have hlt : nb < wx.heap.size := (Array.getElem?_eq_some_iff.1 hblk).1
  have hsz := hB.size
  refine (rrow_int rb nb 0 ns.length v xs ns wx (hr.of_below hb hB) (by omega) hl hlen hlt (by omega) (fun e => by have := hr.own.lt nb e; omega) (fun k n hn => ?_)).mono ?_
  · rw [Nat.zero_add, cell_of_row wx _ _ _ _ _ hblk]; simp [hn]
  · rintro e w' ⟨v', he, hrow, hput⟩
    exact ⟨v', he, hrow, Puts.from_below hb hB hput⟩
end Go.Proofs.YtehkgcmdndehaaaDoor
