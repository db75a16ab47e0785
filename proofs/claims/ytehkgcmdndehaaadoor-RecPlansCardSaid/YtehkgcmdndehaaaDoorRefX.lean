import Derived.Test.YtehkgcmdndehaaaDoorRefW
namespace Go.Proofs.YtehkgcmdndehaaaDoor
set_option linter.unusedSimpArgs false
set_option linter.unusedVariables false
open Go.RowKit

theorem grew_str {w w1 : World} {v v' : Value} (hgrow : w.grownBy w1 v.ownBlock) (hat : v'.ownBlock = v.ownBlock ∨ v'.ownBlock = some w.heap.size) : Grew w w1 v v' :=
  ⟨hgrow.os, hgrow.tape, hgrow.output, hgrow.size, fun k hk hv => hgrow.block k hk (fun e => hv e.symm), by
    rcases hat with h | h
    · exact .inl h
    · exact .inr ⟨_, h, Nat.le_refl _⟩⟩

set_option maxHeartbeats 1600000 in
set_option maxRecDepth 100000 in
theorem ref_wtext (base : Nat) (v : Value) (xs : List UInt8) (s : ByteArray) (w : World) (hown : OwnB w base v xs) (hb : base ≤ w.heap.size) (hl : Fits (xs.length + 1 + s.size)) :
    Calls Tryd.prog 32 #[v, .string s] w (GrewPost w base v (xs ++ encText s)) := by
  obtain ⟨i0, hi, hz0, hz1, hz2⟩ := info_parts infoU8
  have hf1 : Fits (xs.length + 1) := hl.le (by omega)
  have HO := Lib.hid hown
  unfold OwnB at hown
  go_enter Tryd.func32, Tryd.ntmps32
  go_wp2_with (first
    | (at_builtin; refine wpList_append_lies _ rfl (.tmp 5) (.tmp 9) 29 rfl base 5 i0 (.int .u8 0) 1 1 Tryd.underlying29 hi hz0 hz1 hz2 rfl (by decide) v xs.length (bcells xs) rfl (hown.alloc _) ⟨w.heap.size, 0, none⟩ 1 1 (bcells [byteOf s.size]) rfl rfl ?c1 (bcells_oneCell _) (by decide) hf1.max hf1.reach (by simp; omega) (w.heap.size + 1) (by simp) ?_))
  case c1 => intro j u hj; match j, hj with | 0, hj => simp [bcells, byteOf_mod] at hj; subst hj; simp [Addr.add]
  intro g' cap w1 hown1 hgrow hg hlt
  have G1 : Grew w w1 v (.slice (some ⟨g', 0, none⟩) (xs.length + 1) cap) := grew_of (below_alloc w _) hgrow (hg.imp id (fun h => by omega)) (S := w.heap.size + 1) (by omega)
  have hown1' : w1.ownsRow base 5 1 (.slice (some ⟨g', 0, none⟩) (xs.length + 1) cap) (xs.length + 1) (bcells (xs ++ [byteOf s.size])) := by simpa [bcells] using hown1
  have hsz := G1.size
  have GG := Lib.hid G1
  clear hown1 hgrow hg G1 hown
  go_wp2_with (at_builtin; refine wpList_append_str _ rfl (.tmp 10) (.tmp 11) 29 9 rfl base 5 i0 Tryd.underlying29 Tryd.underlying9 hi hz0 hz1 hz2 _ _ _ rfl hown1' s rfl hl.max hl.reach' (by omega) ?_)
  intro v2 w2 hown2 hgrow2 hat2
  have fin : GrewPost w base v (xs ++ encText s) (.returned v2) w2 := by
    refine ⟨v2, rfl, ?_, GG.out.trans (grew_str hgrow2 hat2)⟩
    have e : xs ++ encText s = (xs ++ [byteOf s.size]) ++ s.data.toList := by rw [List.append_assoc]; rfl
    unfold OwnB
    rw [e]
    have hlen : ((xs ++ [byteOf s.size]) ++ s.data.toList).length = xs.length + 1 + s.size := by rw [List.length_append, List.length_append, List.length_singleton, Array.length_toList]; rfl
    rw [hlen]
    have hb2 : bcells ((xs ++ [byteOf s.size]) ++ s.data.toList) = bcells (xs ++ [byteOf s.size]) ++ Lib.strCells s := by
      unfold bcells
      rw [List.map_append]
      rfl
    rw [hb2]
    exact hown2
  have F := Lib.hid fin
  clear fin hown2 hgrow2 hat2 hown1'
  go_wp2
  go_ret
  exact F.out
end Go.Proofs.YtehkgcmdndehaaaDoor
