/-
  Plain words: a session, and what it answers to bytes; its block.
-/
/-
  append of one item to a row of items of the call's own.
-/
/-
  copy(s, s[m:]) of bytes of a row of the call's own: its bytes come down.
-/
import Derived.Test.YtehkgcmdndehaaaPrq
import Derived.Test.YtehkgcmdndehaaaOnce
import Derived.Test.YtehkgcmdndehaaaApB
import Derived.Laws.Bits64b
import Derived.Laws.CopyOwn
namespace Go.Proofs.Ytehkgcmdndehaaa
set_option linter.unusedSimpArgs false
set_option linter.unusedVariables false
open Go.RowKit

def itemCells (p : List Value × Int) : List Value := p.1 ++ [.int .i64 p.2]
def errItem : List Value := reqZ0.cells.toList ++ [.int .i64 5]
/-- How many bytes a frame says that it has. -/
def frameN (bs : List UInt8) : Nat := (bs.getD 0 0).toNat * 256 + (bs.getD 1 0).toNat
/-- The items in bytes, what waits, whether the session is broken. -/
def feedL : Nat → List UInt8 → List (List Value) × List UInt8 × Bool
  | 0, bs => ([], bs, false)
  | f + 1, bs =>
    if bs.length < 2 then ([], bs, false) else
    if frameN bs = 0 ∨ 512 < frameN bs then ([errItem], [], true) else
    if bs.length < 2 + frameN bs then ([], bs, false) else
    (itemCells (parseReqC ((bs.drop 2).take (frameN bs))) :: (feedL f (bs.drop (2 + frameN bs))).1, (feedL f (bs.drop (2 + frameN bs))).2)
theorem feedL_more : ∀ (f g : Nat) (bs : List UInt8), bs.length < f → bs.length < g → feedL f bs = feedL g bs
  | 0, _, bs, h, _ => by omega
  | _, 0, bs, _, h => by omega
  | f + 1, g + 1, bs, hf, hg => by
    unfold feedL
    by_cases h1 : bs.length < 2
    · rw [if_pos h1, if_pos h1]
    rw [if_neg h1, if_neg h1]
    by_cases h2 : frameN bs = 0 ∨ 512 < frameN bs
    · rw [if_pos h2, if_pos h2]
    rw [if_neg h2, if_neg h2]
    by_cases h3 : bs.length < 2 + frameN bs
    · rw [if_pos h3, if_pos h3]
    rw [if_neg h3, if_neg h3, feedL_more f g (bs.drop (2 + frameN bs)) (by rw [List.length_drop]; omega) (by rw [List.length_drop]; omega)]
def feedAll (bs : List UInt8) : List (List Value) × List UInt8 × Bool := feedL (bs.length + 1) bs
theorem feedAll_few (bs : List UInt8) (h : bs.length < 2) : feedAll bs = ([], bs, false) := by unfold feedAll feedL; rw [if_pos h]
theorem feedAll_bad (bs : List UInt8) (h : ¬ bs.length < 2) (h2 : frameN bs = 0 ∨ 512 < frameN bs) : feedAll bs = ([errItem], [], true) := by unfold feedAll feedL; rw [if_neg h, if_pos h2]
theorem feedAll_wait (bs : List UInt8) (h : ¬ bs.length < 2) (h2 : ¬ (frameN bs = 0 ∨ 512 < frameN bs)) (h3 : bs.length < 2 + frameN bs) : feedAll bs = ([], bs, false) := by unfold feedAll feedL; rw [if_neg h, if_neg h2, if_pos h3]
theorem feedAll_item (bs : List UInt8) (h : ¬ bs.length < 2) (h2 : ¬ (frameN bs = 0 ∨ 512 < frameN bs)) (h3 : ¬ bs.length < 2 + frameN bs) :
    feedAll bs = (itemCells (parseReqC ((bs.drop 2).take (frameN bs))) :: (feedAll (bs.drop (2 + frameN bs))).1, (feedAll (bs.drop (2 + frameN bs))).2) := by
  have e := feedL_more bs.length ((bs.drop (2 + frameN bs)).length + 1) (bs.drop (2 + frameN bs)) (by rw [List.length_drop]; omega) (by omega)
  unfold feedAll
  rw [feedL, if_neg h, if_neg h2, if_neg h3, e]

/-- A session's block b: d: is its Once done; v: its bytes' slice. -/
structure SesAt (W : World) (b : Nat) (d : Int) (v : Value) (bs : List UInt8) (brk : Bool) : Prop where
  c0 : W.cell? ⟨b, 0, none⟩ = some (.int .u32 d)
  c1 : W.cell? ⟨b, 1, none⟩ = some (.int .i32 0)
  c3 : W.cell? ⟨b, 3, none⟩ = some v
  c4 : W.cell? ⟨b, 4, none⟩ = some (.bool brk)
  frz : ∀ o, W.frozen? ⟨b, o, none⟩ = false
  lt : b < W.heap.size
  own : OwnB W (b + 1) v bs

/-- What a session's call leaves: all but its own block, its bytes' block, new blocks. -/
structure Fed (w w' : World) (b : Nat) (v v' : Value) : Prop where
  os : w'.os = w.os
  tape : w'.tape = w.tape
  output : w'.output = w.output
  size : w.heap.size ≤ w'.heap.size
  block : ∀ k, k < w.heap.size → k ≠ b → v.ownBlock ≠ some k → w'.heap[k]? = w.heap[k]?
  new : v'.ownBlock = v.ownBlock ∨ v'.ownBlock = none ∨ ∃ k, v'.ownBlock = some k ∧ w.heap.size ≤ k
theorem Fed.refl (w : World) (b : Nat) (v : Value) : Fed w w b v v := ⟨rfl, rfl, rfl, Nat.le_refl _, fun _ _ _ _ => rfl, .inl rfl⟩
theorem Fed.trans {w w1 w2 : World} {b : Nat} {v v1 v2 : Value} (h : Fed w w1 b v v1) (k : Fed w1 w2 b v1 v2) : Fed w w2 b v v2 := by
  refine ⟨k.os.trans h.os, k.tape.trans h.tape, k.output.trans h.output, Nat.le_trans h.size k.size, fun j hj hb hv => ?_, ?_⟩
  · rw [k.block j (Nat.lt_of_lt_of_le hj h.size) hb ?_, h.block j hj hb hv]
    intro e
    rcases h.new with h' | h' | ⟨m, h', hm⟩
    · exact hv (h'.symm.trans e)
    · rw [h'] at e; cases e
    · rw [h'] at e; cases e; omega
  · rcases k.new with k' | k' | ⟨m, k', hm⟩
    · rcases h.new with h' | h' | ⟨m, h', hm⟩
      · exact .inl (k'.trans h')
      · exact .inr (.inl (k'.trans h'))
      · exact .inr (.inr ⟨m, k'.trans h', hm⟩)
    · exact .inr (.inl k')
    · exact .inr (.inr ⟨m, k', Nat.le_trans h.size hm⟩)
theorem Fed.of_below {w w' : World} {b : Nat} {v : Value} (h : Below w.heap.size w w') : Fed w w' b v v := ⟨h.os, h.tape, h.output, h.size, fun k hk _ _ => h.block k hk, .inl rfl⟩
theorem Fed.of_grew {w w' : World} {b : Nat} {v v' : Value} (h : Grew w w' v v') : Fed w w' b v v' := ⟨h.os, h.tape, h.output, h.size, fun k hk _ hv => h.block k hk hv, h.new.imp id .inr⟩
theorem Fed.of_mods {w w' : World} {b : Nat} {v v' : Value} {S : Nat → Prop} (h : Mods w w' b S) (hn : v'.ownBlock = v.ownBlock ∨ v'.ownBlock = none ∨ ∃ k, v'.ownBlock = some k ∧ w.heap.size ≤ k) : Fed w w' b v v' := ⟨h.os, h.tape, h.output, h.size, fun k hk hb _ => h.block k hk hb, hn⟩
theorem Fed.cell {w w' : World} {b : Nat} {v v' : Value} (h : Fed w w' b v v') {a : Addr} (hk : a.block < w.heap.size) (hb : a.block ≠ b) (hv : v.ownBlock ≠ some a.block) : w'.cell? a = w.cell? a := World.cell?_of_block (h.block _ hk hb hv)
theorem Fed.drew {w w' : World} {b : Nat} {v v' : Value} (h : Fed w w' b v v') : Fed w w'.drew b v v' := ⟨h.os, h.tape, h.output, h.size, h.block, h.new⟩

theorem Reads.fed {w w' : World} {b : Nat} {v v' vb : Value} {zs : List UInt8} (h : Reads w vb zs) (hf : Fed w w' b v v') (h1 : vb.ownBlock ≠ some b) (h2 : ∀ k, vb.ownBlock = some k → v.ownBlock ≠ some k) : Reads w' vb zs := by
  rcases h with h | ⟨bb, off, cap, rfl, hc, hb, hx⟩
  · exact .inl h
  · exact .inr ⟨bb, off, cap, rfl, hc, Nat.lt_of_lt_of_le hb hf.size, fun i x hi => (hf.cell (a := ⟨bb, off + i, none⟩) hb (fun e => h1 (by rw [show b = bb from (by simpa using e.symm)]; rfl)) (h2 bb rfl)).trans (hx i x hi)⟩
theorem SesAt.on {W W' : World} {b : Nat} {d : Int} {v : Value} {bs : List UInt8} {brk : Bool} (h : SesAt W b d v bs brk) (hB : Below W.heap.size W W') : SesAt W' b d v bs brk :=
  ⟨(hB.cell (p := ⟨b, 0, none⟩) h.lt).trans h.c0, (hB.cell (p := ⟨b, 1, none⟩) h.lt).trans h.c1, (hB.cell (p := ⟨b, 3, none⟩) h.lt).trans h.c3, (hB.cell (p := ⟨b, 4, none⟩) h.lt).trans h.c4, fun o => (hB.frozen (p := ⟨b, o, none⟩) h.lt).trans (h.frz o), Nat.lt_of_lt_of_le h.lt hB.size, h.own.of_below hB⟩
theorem SesAt.drew {W : World} {b : Nat} {d : Int} {v : Value} {bs : List UInt8} {brk : Bool} (h : SesAt W b d v bs brk) : SesAt W.drew b d v bs brk := ⟨h.c0, h.c1, h.c3, h.c4, h.frz, h.lt, h.own⟩
theorem SesAt.apart {W : World} {b : Nat} {d : Int} {v : Value} {bs : List UInt8} {brk : Bool} (h : SesAt W b d v bs brk) : v.ownBlock ≠ some b := fun e => by have := h.own.lt b e; omega
/-- Bytes are put behind, and the slice is stored. -/
theorem SesAt.grow {W W' : World} {b : Nat} {d : Int} {v v' : Value} {bs ys : List UInt8} {brk : Bool} (h : SesAt W b d v bs brk) (ho : OwnB W' (b + 1) v' ys) (hg : Grew W W' v v') :
    SesAt (W'.setCell ⟨b, 3, none⟩ v') b d v' ys brk ∧ Fed W (W'.setCell ⟨b, 3, none⟩ v') b v v' := by
  have hbk := hg.block b h.lt h.apart
  have m : Mods W' (W'.setCell ⟨b, 3, none⟩ v') b (fun o => o = 3) := Mods.of_setCell rfl
  have hc : ∀ o, W'.cell? ⟨b, o, none⟩ = W.cell? ⟨b, o, none⟩ := fun o => World.cell?_of_block hbk
  have hne : v'.ownBlock ≠ some b := fun e => by have := ho.lt b e; omega
  refine ⟨⟨(m.row 0 (by omega)).trans ((hc 0).trans h.c0), (m.row 1 (by omega)).trans ((hc 1).trans h.c1), cell_set_same ((hc 3).trans h.c3), (m.row 4 (by omega)).trans ((hc 4).trans h.c4), fun o => (m.frz o).trans ((World.frozen?_of_block hbk).trans (h.frz o)), Nat.lt_of_lt_of_le h.lt (Nat.le_trans hg.size m.size), ownsRow_setCell_other ho (a := ⟨b, 3, none⟩) hne v'⟩, (Fed.of_grew hg).trans (Fed.of_mods m (.inl rfl))⟩
/-- The Once. -/
def OncePost (W : World) (b : Nat) (v : Value) (bs : List UInt8) (brk : Bool) (e : Ending) (W' : World) : Prop := ∃ v', e = .returned (.tuple #[]) ∧ SesAt W' b 1 v' bs brk ∧ Fed W W' b v v'
theorem ses_once {W : World} {b : Nat} {d : Int} {v : Value} {bs : List UInt8} {brk : Bool} (pl : Addr) (h : SesAt W b d v bs brk) (hd : d = 1 ∨ (d = 0 ∧ v = .slice none 0 0 ∧ bs = [])) (hp : W.cell? pl = some (.pointer (some ⟨b, 0, none⟩))) (hpb : pl.block ≠ b) :
    Calls Try.prog 51 #[.pointer (some ⟨b, 0, none⟩), .func (.func 52) #[] #[.pointer (some pl)]] W (OncePost W b v bs brk) := by
  rcases hd with rfl | ⟨rfl, rfl, rfl⟩
  · exact (once_done ⟨b, 0, none⟩ 1 (by decide) _ W h.c0).mono fun e w' ⟨he, hw⟩ => by subst hw; exact ⟨v, he, h, Fed.refl _ _ _⟩
  · refine (once_first b pl _ W hp hpb h.lt h.c0 h.c1 h.c3 h.frz).mono ?_
    rintro e w' ⟨⟨he, hm, g, h3, ho, hg⟩, h0, h1⟩
    exact ⟨_, he, ⟨h0, h1, h3, (hm.row 4 (by omega)).trans h.c4, fun o => (hm.frz o).trans (h.frz o), Nat.lt_of_lt_of_le h.lt hm.size, ho⟩, Fed.of_mods hm (.inr (.inr ⟨g, rfl, hg⟩))⟩
theorem or_frame (a b : Nat) (ha : a ≤ 255) (hb : b ≤ 255) : bits .or .i64 ((a : Int) * 256) (b : Int) = ((a * 256 + b : Nat) : Int) := by
  have h1 : (BitVec.ofInt 64 ((a : Int) * 256)).toNat = a * 256 := by
    rw [show (a : Int) * 256 = ((a * 256 : Nat) : Int) by omega, BitVec.ofInt_natCast, BitVec.toNat_ofNat]; exact Nat.mod_eq_of_lt (by omega)
  have h2 : (BitVec.ofInt 64 (b : Int)).toNat = b := by
    rw [BitVec.ofInt_natCast, BitVec.toNat_ofNat]; exact Nat.mod_eq_of_lt (by omega)
  have h3 : a * 256 ||| b = a * 256 + b := by
    have := Nat.shiftLeft_add_eq_or_of_lt (b := b) (i := 8) (by omega) a
    rw [Nat.shiftLeft_eq] at this
    exact this.symm
  show IntKind.i64.wrap ((BitVec.ofInt 64 ((a : Int) * 256) ||| BitVec.ofInt 64 (b : Int)).toNat : Int) = _
  rw [BitVec.toNat_or, h1, h2, h3]
  exact IntWalk.i64_in _ (by omega)
end Go.Proofs.Ytehkgcmdndehaaa

namespace Go.Proofs.Ytehkgcmdndehaaa
set_option linter.unusedSimpArgs false
set_option linter.unusedVariables false
open Go.RowKit

def itemZ : Array Value := (reqZ0.cells.toList ++ [Value.int .i64 0]).toArray
theorem infoItem : (Try.prog.info? 56).map (fun i => (i.zero, i.size, i.bytes)) = some (some (.agg itemZ), 19, 184) := by kernel_rfl

theorem OwnB.onB {W W' : World} {base n : Nat} {v : Value} {bs : List UInt8} (h : OwnB W base v bs) (hv : ∀ k, v.ownBlock = some k → k < n) (hB : Below n W W') : OwnB W' base v bs := by
  refine ⟨h.1, ?_⟩
  rcases h.2 with hn | ⟨g, cap, cur, rfl, hb, hgg, rest⟩
  · exact .inl hn
  · exact .inr ⟨g, cap, cur, rfl, hb, (hB.block g (hv g rfl)).trans hgg, rest⟩
theorem SesAt.onB {W W' : World} {b n : Nat} {d : Int} {v : Value} {bs : List UInt8} {brk : Bool} (h : SesAt W b d v bs brk) (hb : b < n) (hv : ∀ k, v.ownBlock = some k → k < n) (hB : Below n W W') : SesAt W' b d v bs brk :=
  ⟨(hB.cell (p := ⟨b, 0, none⟩) hb).trans h.c0, (hB.cell (p := ⟨b, 1, none⟩) hb).trans h.c1, (hB.cell (p := ⟨b, 3, none⟩) hb).trans h.c3, (hB.cell (p := ⟨b, 4, none⟩) hb).trans h.c4, fun o => (hB.frozen (p := ⟨b, o, none⟩) hb).trans (h.frz o), Nat.lt_of_lt_of_le h.lt hB.size, h.own.onB hv hB⟩

theorem errItem_one : ∀ u ∈ errItem, u.oneCell' = true := by
  intro u hu
  simp [errItem, reqZ0, ReqD.cells, plan0] at hu
  rcases hu with rfl | rfl | rfl | rfl | rfl | rfl <;> rfl
theorem Fed.over {w w1 w2 : World} {b n : Nat} {v v1 : Value} (h : Fed w w1 b v v1) (hB : Below n w1 w2) (hn : w.heap.size ≤ n) : Fed w w2 b v v1 :=
  ⟨hB.os.trans h.os, hB.tape.trans h.tape, hB.output.trans h.output, Nat.le_trans h.size hB.size, fun k hk hb hv => (hB.block k (Nat.lt_of_lt_of_le hk hn)).trans (h.block k hk hb hv), h.new⟩
section
variable (w : World)
theorem wp_append_item {o : Oper} {a : Act} {K : Act → World → Prop} {Q : Exit → Act → World → Prop} (s x : Operand)
    (ho : o.op = .call { callee := .builtin .append, args := #[s, x], argTypes := #[52, 52] }) (hty : o.type = 52)
    (base : Nat) (v : Value) (n : Nat) (xs item : List Value) (hs : a.eval s = v) (hown : w.ownsRow base 56 19 v n xs) (hl : item.length = 19) (h1 : ∀ u ∈ item, u.oneCell' = true)
    (g : Nat) (hx : a.eval x = .slice (some ⟨g, 0, none⟩) 1 1) (hg : w.heap[g]? = some (.cells item.toArray 56 (0, 0))) (hn : n ≤ 1000000) (hbase : base ≤ w.heap.size)
    (h : ∀ v' w', w'.ownsRow base 56 19 v' (n + 1) (xs ++ item) → Below base w w' → K (a.put o.dst v') w') : o.wp Try.prog a w K Q := by
  obtain ⟨i0, hi, hz0, hz1, hz2⟩ := info_parts infoItem
  obtain ⟨v', w', hrun, h2, h3, _, h5⟩ := run_append_own_at (P := Try.prog) w base 52 o.type 56 i0 (.agg itemZ) 19 184 Try.underlying52 hi hz0 hz1 hz2 rfl (by decide) v n xs hown
    ⟨g, 0, none⟩ 1 1 item (by rw [hl]) (fun j u hj => by rw [Addr.add_lit, Nat.zero_add, cell_of_row _ _ _ _ _ _ hg]; simpa using hj) h1 (by unfold maxLen; omega) (by omega) hbase
  unfold Oper.wp execOp
  simp only [ho, resolve, invoke, builtin, Sem.run_bind, Sem.run_pure, Result.andThen_ok, List.map_toArray, List.map_cons, List.map_nil, hs, hx, hrun]
  exact h v' w' h2 ((Below.refl _ _).grown h3 hbase (fun k hk => (hown.lt k hk).1))
theorem wpList_append_item {ops : Array Oper} {rest : List Oper} {o : Oper} {a : Act} {Q : Exit → Act → World → Prop} (hgd : o.guard = none) (s x : Operand)
    (ho : o.op = .call { callee := .builtin .append, args := #[s, x], argTypes := #[52, 52] }) (hty : o.type = 52)
    (base : Nat) (v : Value) (n : Nat) (xs item : List Value) (hs : a.eval s = v) (hown : w.ownsRow base 56 19 v n xs) (hl : item.length = 19) (h1 : ∀ u ∈ item, u.oneCell' = true)
    (g : Nat) (hx : a.eval x = .slice (some ⟨g, 0, none⟩) 1 1) (hg : w.heap[g]? = some (.cells item.toArray 56 (0, 0))) (hn : n ≤ 1000000) (hbase : base ≤ w.heap.size)
    (h : ∀ v' w', w'.ownsRow base 56 19 v' (n + 1) (xs ++ item) → Below base w w' → wpList Try.prog ops Q rest (a.put o.dst v') w') : wpList Try.prog ops Q (o :: rest) a w :=
  wpList_plain hgd fun _ hK => wp_append_item w s x ho hty base v n xs item hs hown hl h1 g hx hg hn hbase fun v' w' h2 h3 => hK _ _ (h v' w' h2 h3)
end
end Go.Proofs.Ytehkgcmdndehaaa

namespace Go.Proofs.Ytehkgcmdndehaaa
set_option linter.unusedSimpArgs false
set_option linter.unusedVariables false
open Go.RowKit

theorem parseReqC_shape (bs : List UInt8) : ∃ q : ReqD, (parseReqC bs).1 = q.cells.toList := by
  rw [parseReqC_eq, prKind_eq]
  split
  · exact ⟨reqZ0, rfl⟩
  · rw [prKey_eq, prNums_eq, prTexts_eq, prMore_eq]
    generalize (Rd.one ⟨bs, false⟩).1 = k
    generalize (Rd.one ⟨bs, false⟩).2 = r
    obtain ⟨q, hq, _⟩ := good_shape (good_more (Rd.strs (textOffs k).length (Rd.ints (numOffs k).length r.str.2).2).2 (good_texts (Rd.ints (numOffs k).length r.str.2).2 (good_nums r.str.2 (good_init k (strB r.str.1)))))
    rw [hq, prEnd_eq]
    split
    · split
      · exact ⟨reqZ0, rfl⟩
      · exact ⟨{ q with plan := _ }, putPlan_cells q _⟩
    · split
      · exact ⟨reqZ0, rfl⟩
      · split
        · exact ⟨reqZ0, rfl⟩
        · exact ⟨q, rfl⟩
/-- An item's cells. -/
def itemA (q : ReqD) (e : Int) : Array Value := (q.cells.toList ++ [Value.int .i64 e]).toArray
theorem itemA_one (q : ReqD) (e : Int) : ∀ u ∈ q.cells.toList ++ [Value.int .i64 e], u.oneCell' = true := by
  intro u hu
  simp only [ReqD.cells, List.mem_append, List.mem_cons, List.not_mem_nil, or_false] at hu
  rcases hu with (rfl | rfl | rfl | rfl | rfl | rfl | rfl | rfl | rfl | rfl | rfl | rfl | rfl | rfl | rfl | rfl | rfl | rfl) | rfl <;> rfl
end Go.Proofs.Ytehkgcmdndehaaa

namespace Go.Proofs.Ytehkgcmdndehaaa
set_option linter.unusedSimpArgs false
set_option linter.unusedVariables false
open Go.RowKit

theorem sizeU8 : (Try.prog.info? 5).map (·.size) = some 1 := by kernel_rfl
/-- Only block g is another. -/
structure Only (w w' : World) (g : Nat) : Prop where
  os : w'.os = w.os
  tape : w'.tape = w.tape
  output : w'.output = w.output
  size : w'.heap.size = w.heap.size
  block : ∀ k, k ≠ g → w'.heap[k]? = w.heap[k]?
theorem run_copy_down (w : World) (base g cap m : Nat) (xs : List UInt8) (h : OwnB w base (.slice (some ⟨g, 0, none⟩) xs.length cap) xs) (hm : m ≤ xs.length) (ad : Addr) (sc : Nat) (had : m < xs.length → ad = ⟨g, m, none⟩) (ty : TypeId) :
    ∃ w', (Builtin.copy_ #[28, 28] ty #[.slice (some ⟨g, 0, none⟩) xs.length cap, .slice (some ad) (xs.length - m) sc]).run Try.prog w = .ok (goInt ((xs.length - m : Nat) : Int)) w' ∧
      OwnB w' base (.slice (some ⟨g, 0, none⟩) (xs.length - m) cap) (xs.drop m) ∧ Only w w' g := by
  have hxl : (bcells (xs.drop m)).length = xs.length - m := by simp [bcells]
  rcases h.2 with ⟨h0, _⟩ | ⟨g', cap', cur, hv, hb, hgg, hnc, hcm, hcs, ht⟩
  · cases h0
  · cases hv
    rcases Nat.lt_or_ge m xs.length with hlt | hge
    · have hc := had hlt
      subst hc
      have hrow := run_copy_row (P := Try.prog) w 28 28 ty 5 g 0 xs.length cap ⟨g, m, none⟩ (xs.length - m) sc cur 5 (bcells (xs.drop m)) Try.underlying28 sizeU8 hgg (by rw [hxl]; exact (Nat.min_eq_left (by omega)).symm)
        (fun j v hj => by
          rw [Addr.add_lit, cell_of_row _ _ _ _ _ _ hgg]
          have h2 : (bcells xs)[m + j]? = some v := by
            rw [bcells, List.map_drop, ← bcells, List.getElem?_drop] at hj; exact hj
          rw [← ht, List.getElem?_take] at h2
          split at h2
          · simpa using h2
          · cases h2) (by rw [hxl]; simp at hcs; omega) (bcells_oneCell _)
      rw [hxl] at hrow
      refine ⟨_, hrow, ?_, ⟨rfl, rfl, rfl, by simp, fun k hk => setRow_other _ _ _ _ hk⟩⟩
      unfold OwnB
      rw [List.length_drop]
      refine ⟨by rw [hxl]; omega, .inr ⟨g, cap, _, rfl, hb, setRow_heap _ _ _ _ _ _ hgg, by omega, hcm, ?_, ?_⟩⟩
      · simp only [List.size_toArray, List.length_append, List.length_take, List.length_drop, hxl, Array.length_toList]; omega
      · rw [Nat.mul_one, ← hxl]
        simp
    · have hrun := run_copy_none (P := Try.prog) w 28 28 ty 5 (some ⟨g, 0, none⟩) (some ad) xs.length cap (xs.length - m) sc Try.underlying28 sizeU8 (by rw [show xs.length - m = 0 by omega]; simp)
      rw [show xs.length - m = 0 by omega] at hrun ⊢
      refine ⟨w, hrun, ?_, ⟨rfl, rfl, rfl, rfl, fun _ _ => rfl⟩⟩
      have hd : xs.drop m = [] := List.drop_eq_nil_of_le hge
      rw [hd]
      exact ⟨rfl, .inr ⟨g, cap, cur, rfl, hb, hgg, Nat.zero_le _, hcm, hcs, by simp [bcells]⟩⟩
theorem step_copy_down {ops : Array Oper} {o : Oper} {a : Act} {w : World} {K : Act → World → Prop} {Q : Exit → Act → World → Prop} {E : Prop} (hgd : o.guard = none) (d s : Operand)
    (ho : o.op = .call { callee := .builtin .copy, args := #[d, s], argTypes := #[28, 28] })
    (base g cap m : Nat) (xs : List UInt8) (hd : a.eval d = .slice (some ⟨g, 0, none⟩) xs.length cap) (ad : Addr) (sc : Nat) (hs : a.eval s = .slice (some ad) (xs.length - m) sc) (h : OwnB w base (.slice (some ⟨g, 0, none⟩) xs.length cap) xs) (hm : m ≤ xs.length) (had : m < xs.length → ad = ⟨g, m, none⟩)
    (hK : ∀ w', OwnB w' base (.slice (some ⟨g, 0, none⟩) (xs.length - m) cap) (xs.drop m) → Only w w' g → K (a.put o.dst (goInt ((xs.length - m : Nat) : Int))) w') :
    if Region.wanted o (yielded ops a.tmps) = true then Oper.wp Try.prog o a w K Q else E := by
  rw [if_pos (by simp [Region.wanted, hgd])]
  obtain ⟨w', hrun, h2, h3⟩ := run_copy_down w base g cap m xs h hm ad sc had o.type
  unfold Oper.wp
  simp [execOp, ho, resolve, invoke, builtin, hd, hs, hrun, Result.andThen]
  exact hK w' h2 h3
end Go.Proofs.Ytehkgcmdndehaaa
