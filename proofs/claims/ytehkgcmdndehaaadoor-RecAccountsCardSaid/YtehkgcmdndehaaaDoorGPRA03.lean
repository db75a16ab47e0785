/-
  Results kept in a cell beside a temporary; a row that was stored whole. No function in sight.
-/
/-
  A struct that is loaded in a region that draws its order: rules at the operation as a whole. No program in sight.
-/
/-
  An answer as a value.
-/
import Derived.Test.YtehkgcmdndehaaaDoorChecked
import Derived.Test.YtehkgcmdndehaaaDoorGPRA00
import Derived.WalkSpells
import Derived.WalkLawsBesides
import Derived.Deep.RegionLaw
import Derived.Deep.LoopGhost
import Derived.Deep.DeepFit
import Derived.Deep.DeepMust
import Derived.WalkKit
import Derived.Deep.MidRow
import Derived.Laws.CopyOwn
import Derived.Test.YtehkgcmdndehaaaDoorGPRA01
import Derived.Test.YtehkgcmdndehaaaDoorGPRA02
namespace Go.Proofs.YtehkgcmdndehaaaDoor
set_option linter.unusedSimpArgs false
set_option linter.unusedVariables false
open Go.RowKit

theorem infoU8 : (Tryd.prog.info? 5).map (fun i => (i.zero, i.size, i.bytes)) = some (some (.int .u8 0), 1, 1) := by kernel_rfl
end Go.Proofs.YtehkgcmdndehaaaDoor

namespace Go.Proofs.YtehkgcmdndehaaaDoor
set_option linter.unusedSimpArgs false
set_option linter.unusedVariables false
open Go.RowKit

theorem res_cell_tmp {P : Program} {fn : Func} {p u : Tmp} {ty : TypeId} (h : fn.results = #[.cell p ty, .tmp u]) (tmps : Array Value) (w : World) (b : Nat) (hp : tmps.getD p undef = .pointer (some ⟨b, 0, none⟩))
    (cs : List Value) (d : TypeDesc) (hc : w.rangeAt b 0 cs) (hu : P.underlying ty = some d) (hd : d.isRow = true) (hi : (P.info? ty).map (·.size) = some cs.length) :
    (results fn tmps).run P w = .ok (.tuple #[.agg cs.toArray, tmps.getD u undef]) w := by
  rw [results_cell_tmp h, hp]
  have := run_loadVar_mid w b 0 ty cs d hc hu hd hi
  simp [asAddr, this]
theorem rng_setRow {w : World} {sb : Nat} {cs old : Array Value} {T : TypeId} (hg : w.heap[sb]? = some (.cells old T (0, 0))) : (w.setRow sb cs).rangeAt sb 0 cs.toList := by
  intro j v hv
  rw [Nat.zero_add, cell_setRow_same _ _ _ _ _ _ _ hg]
  simpa using hv
/-- A value that was stored into a block just made. -/
theorem made_row (w : World) (cs cs0 : Array Value) (T : TypeId) : Below w.heap.size w ((w.alloc (.cells cs0 T)).setRow w.heap.size cs) ∧ ((w.alloc (.cells cs0 T)).setRow w.heap.size cs).heap[w.heap.size]? = some (.cells cs T (0, 0)) ∧ ((w.alloc (.cells cs0 T)).setRow w.heap.size cs).heap.size = w.heap.size + 1 :=
  ⟨below_setRow ((Below.refl _ _).alloc (Nat.le_refl _) _) (Nat.le_refl _) _, setRow_heap _ _ _ _ _ _ (heap_alloc_new _ _), by simp⟩
end Go.Proofs.YtehkgcmdndehaaaDoor

namespace Go.Proofs.YtehkgcmdndehaaaDoor
set_option linter.unusedSimpArgs false
set_option linter.unusedVariables false
open Go.RowKit

/-- The cells of a range, whatever they hold. -/
def rowOf (w : World) (b o n : Nat) : Array Value := ((List.range n).map fun j => (w.cell? ⟨b, o + j, none⟩).getD undef).toArray
/-- Is there a cell at each place of a range? -/
def isRow (w : World) (b o n : Nat) : Bool := (List.range n).all fun j => (w.cell? ⟨b, o + j, none⟩).isSome

theorem rowOf_range {w : World} {b o : Nat} {cs : Array Value} (h : w.rangeAt b o cs.toList) : rowOf w b o cs.size = cs := by
  apply Array.ext
  · simp [rowOf]
  · intro i h1 h2
    have hi : i < cs.size := h2
    have := h i cs[i] (by simp [hi])
    simp [rowOf, this]
theorem isRow_range {w : World} {b o : Nat} {cs : Array Value} (h : w.rangeAt b o cs.toList) : isRow w b o cs.size = true := by
  unfold isRow
  rw [List.all_eq_true]
  intro j hj
  have hi : j < cs.size := by simpa using hj
  rw [h j cs[j] (by simp [hi])]
  rfl
theorem range_rowOf {w : World} {b o n : Nat} (h : isRow w b o n = true) : w.rangeAt b o (rowOf w b o n).toList := by
  intro j v hj
  unfold isRow at h
  rw [List.all_eq_true] at h
  have hj' : j < n := by
    have := (List.getElem?_eq_some_iff.1 hj).1
    simpa [rowOf] using this
  obtain ⟨u, hu⟩ := Option.isSome_iff_exists.1 (h j (by simpa using hj'))
  simp [rowOf, hj', hu] at hj
  rw [hu, hj]
theorem run_load_rowOf {P : Program} (w : World) (ty : TypeId) (b o n : Nat) (d : TypeDesc) (hu : P.underlying ty = some d) (hd : d.isRow = true) (hi : (P.info? ty).map (·.size) = some n) (h : isRow w b o n = true) :
    (Instr.loadAt ty (.pointer (some ⟨b, o, none⟩))).run P w = .ok (.agg (rowOf w b o n)) w := by
  have := run_loadAt_mid (P := P) w b o ty (rowOf w b o n).toList d (range_rowOf h) hu hd (by rw [hi]; simp [rowOf])
  simpa using this
/-- Is the value a pointer at a block's begin, with n cells behind it? -/
def okPtr (n : Nat) (v : Value) (w : World) : Bool := match v with | .pointer (some ⟨b, 0, none⟩) => isRow w b 0 n | _ => false
def ptrRow (n : Nat) (v : Value) (w : World) : Array Value := match v with | .pointer (some ⟨b, 0, none⟩) => rowOf w b 0 n | _ => #[]
@[go_sem] theorem okPtr_ptr (n b : Nat) (w : World) : okPtr n (.pointer (some ⟨b, 0, none⟩)) w = isRow w b 0 n := rfl
@[go_sem] theorem ptrRow_ptr (n b : Nat) (w : World) : ptrRow n (.pointer (some ⟨b, 0, none⟩)) w = rowOf w b 0 n := rfl
theorem run_load_ptr {P : Program} (w : World) (ty : TypeId) (v : Value) (n : Nat) (d : TypeDesc) (hu : P.underlying ty = some d) (hd : d.isRow = true) (hi : (P.info? ty).map (·.size) = some n) (h : okPtr n v w = true) :
    (Instr.loadAt ty v).run P w = .ok (.agg (ptrRow n v w)) w := by
  unfold okPtr at h
  split at h
  · exact run_load_rowOf w ty _ 0 n d hu hd hi h
  · cases h
theorem run_ex_load {P : Program} (ρ : Operand → Value) (dst : Option Tmp) (x : Operand) (t : TypeId) (pos : String) (after : Array Edge) (guard : Option (Nat × Bool)) (w : World) (ty : TypeId) (n : Nat) (d : TypeDesc) (hu : P.underlying ty = some d) (hd : d.isRow = true) (hi : (P.info? ty).map (·.size) = some n) (h : okPtr n (ρ x) w = true) :
    (execOp ρ { dst, op := .load ty x, type := t, pos, after, guard }).run P w = .ok (.value (.agg (ptrRow n (ρ x) w))) w := by
  unfold execOp
  simp only [Sem.run_bind, run_load_ptr w ty (ρ x) n d hu hd hi h, Result.andThen_ok, Sem.run_pure]
end Go.Proofs.YtehkgcmdndehaaaDoor

namespace Go.Proofs.YtehkgcmdndehaaaDoor
set_option linter.unusedSimpArgs false
set_option linter.unusedVariables false
open Go.RowKit

/-- The value v owns the bytes xs (from block base on). -/
def OwnB (w : World) (base : Nat) (v : Value) (xs : List UInt8) : Prop := w.ownsRow base 5 1 v xs.length (bcells xs)

/-- What a call that appends onto its argument leaves. -/
structure Grew (w w' : World) (v v' : Value) : Prop where
  os : w'.os = w.os
  tape : w'.tape = w.tape
  output : w'.output = w.output
  size : w.heap.size ≤ w'.heap.size
  block : ∀ k, k < w.heap.size → v.ownBlock ≠ some k → w'.heap[k]? = w.heap[k]?
  new : v'.ownBlock = v.ownBlock ∨ ∃ k, v'.ownBlock = some k ∧ w.heap.size ≤ k

def GrewPost (w : World) (base : Nat) (v : Value) (zs : List UInt8) (e : Ending) (w' : World) : Prop := ∃ v', e = .returned v' ∧ OwnB w' base v' zs ∧ Grew w w' v v'

theorem Grew.refl (w : World) (v : Value) : Grew w w v v := ⟨rfl, rfl, rfl, Nat.le_refl _, fun _ _ _ => rfl, .inl rfl⟩
theorem Grew.trans {w w1 w2 : World} {v v1 v2 : Value} (h : Grew w w1 v v1) (k : Grew w1 w2 v1 v2) : Grew w w2 v v2 := by
  refine ⟨k.os.trans h.os, k.tape.trans h.tape, k.output.trans h.output, Nat.le_trans h.size k.size, fun j hj hv => ?_, ?_⟩
  · rw [k.block j (Nat.lt_of_lt_of_le hj h.size) ?_, h.block j hj hv]
    intro e
    rcases h.new with h' | ⟨m, h', hm⟩
    · exact hv (h'.symm.trans e)
    · rw [h'] at e; cases e; omega
  · rcases k.new with k' | ⟨m, k', hm⟩
    · rcases h.new with h' | ⟨m, h', hm⟩
      · exact .inl (k'.trans h')
      · exact .inr ⟨m, k'.trans h', hm⟩
    · exact .inr ⟨m, k', Nat.le_trans h.size hm⟩
theorem Grew.cell {w w' : World} {v v' : Value} (h : Grew w w' v v') {a : Addr} (hk : a.block < w.heap.size) (hv : v.ownBlock ≠ some a.block) : w'.cell? a = w.cell? a := World.cell?_of_block (h.block _ hk hv)
theorem Grew.other {w w' : World} {v v' : Value} (h : Grew w w' v v') {k : Nat} (hk : k < w.heap.size) (hv : v.ownBlock ≠ some k) : v'.ownBlock ≠ some k := by
  intro e
  rcases h.new with h' | ⟨m, h', hm⟩
  · exact hv (h'.symm.trans e)
  · rw [h'] at e; cases e; omega
theorem Grew.of_below {w w' : World} {v : Value} (hB : Below w.heap.size w w') : Grew w w' v v := ⟨hB.os, hB.tape, hB.output, hB.size, fun k hk _ => hB.block k hk, .inl rfl⟩
theorem Grew.undrew {w w' : World} {v v' : Value} (h : Grew w.drew w' v v') : Grew w w' v v' := ⟨h.os, h.tape, h.output, h.size, h.block, h.new⟩
theorem Grew.from_below {w w' w'' : World} {v v' : Value} (hB : Below w.heap.size w w') (h : Grew w' w'' v v') : Grew w w'' v v' := (Grew.of_below hB).trans h
theorem Grew.below_new {n : Nat} {w W w1 : World} {v0 v : Value} (h : Grew W w1 v0 v) (hv : v0.ownBlock = none) (hB : Below n w W) (hs : n ≤ W.heap.size) : Below n w w1 :=
  hB.trans ⟨h.os, h.tape, h.output, h.size, fun k hk => h.block k (by omega) (by rw [hv]; simp)⟩
theorem grew_of {w wa w1 : World} {v : Value} {g n cap S : Nat} (ha : Below w.heap.size w wa) (hgrow : wa.grownBy w1 v.ownBlock) (hg : v.ownBlock = some g ∨ g = S) (hS : w.heap.size ≤ S) : Grew w w1 v (.slice (some ⟨g, 0, none⟩) n cap) :=
  ⟨hgrow.os.trans ha.os, hgrow.tape.trans ha.tape, hgrow.output.trans ha.output, Nat.le_trans ha.size hgrow.size, fun k hk hv => (hgrow.block k (Nat.lt_of_lt_of_le hk ha.size) (fun e => hv e.symm)).trans (ha.block k hk),
    by rcases h : v.ownBlock with _ | b
       · rcases hg with hg | hg
         · rw [h] at hg; cases hg
         · exact .inr ⟨g, rfl, by omega⟩
       · rcases hg with hg | hg
         · rw [h] at hg; cases hg; exact .inl rfl
         · exact .inr ⟨g, rfl, by omega⟩⟩
theorem OwnB.of_below {w w' : World} {base : Nat} {v : Value} {xs : List UInt8} (h : OwnB w base v xs) (hB : Below w.heap.size w w') : OwnB w' base v xs :=
  World.ownsRow.kept (row := none) h ⟨hB.os, hB.tape, hB.output, hB.size, fun k hk _ => hB.block k hk⟩ (by cases hv : v.ownBlock <;> simp)
theorem OwnB.nil (w : World) (base : Nat) : OwnB w base (.slice none 0 0) [] := World.ownsRow_nil _ _ _ _

theorem byte_u64 (n : Int) (k : Nat) (hk : k < 8) : byteOf (n % 18446744073709551616 / 2 ^ (8 * k)) = byteOf (n / 2 ^ (8 * k)) := by
  unfold byteOf
  congr 2
  match k, hk with
  | 0, _ => simp only [Nat.mul_zero, Int.pow_zero, Int.ediv_one]; omega
  | 1, _ => simp only [show (2 : Int) ^ (8 * 1) = 256 from rfl]; omega
  | 2, _ => simp only [show (2 : Int) ^ (8 * 2) = 65536 from rfl]; omega
  | 3, _ => simp only [show (2 : Int) ^ (8 * 3) = 16777216 from rfl]; omega
  | 4, _ => simp only [show (2 : Int) ^ (8 * 4) = 4294967296 from rfl]; omega
  | 5, _ => simp only [show (2 : Int) ^ (8 * 5) = 1099511627776 from rfl]; omega
  | 6, _ => simp only [show (2 : Int) ^ (8 * 6) = 281474976710656 from rfl]; omega
  | 7, _ => simp only [show (2 : Int) ^ (8 * 7) = 72057594037927936 from rfl]; omega

set_option maxHeartbeats 1600000 in
set_option maxRecDepth 100000 in
theorem ref_int (base : Nat) (v : Value) (xs : List UInt8) (n : Int) (w : World) (hown : OwnB w base v xs) (hb : base ≤ w.heap.size) (hl : Fits (xs.length + 8)) :
    Calls Tryd.prog 33 #[v, .int .i64 n] w (GrewPost w base v (xs ++ encInt n)) := by
  obtain ⟨i0, hi, hz0, hz1, hz2⟩ := info_parts infoU8
  have HO := Lib.hid hown
  clear hown
  go_enter Tryd.func33, Tryd.ntmps33
  go_wp2
  go_loopg [0, 5] 8 (fun g s0 s5 wr => ∃ j : Nat, j + g = 8 ∧ s5 = .int .i64 ((g : Int) - 1) ∧ OwnB wr base s0 (xs ++ (encInt n).take j) ∧ Grew w wr v s0)
  case atStart => exact ⟨0, by omega, rfl, by simpa using HO.out, Grew.refl _ _⟩
  case round =>
    obtain ⟨j, hjg, e5, hown, hgr⟩ := hrel
    have hsz := hgr.size
    cases gk with
    | zero =>
      subst e5
      have X := Lib.hid (And.intro hown hgr)
      clear hown hgr
      go_wp2
      go_ret
      refine ⟨_, rfl, ?_, X.out.2⟩
      have := X.out.1
      rwa [List.take_of_length_le (by rw [encInt_length]; omega)] at this
    | succ g =>
      obtain rfl : u5 = .int .i64 g := by rw [e5]; congr 1; omega
      have hg8 : g < 8 := by omega
      have w8 : IntKind.i64.wrap (8 * (g : Int)) = 8 * (g : Int) := IntWalk.i64_in _ (by omega)
      have s0 : (0 : Int) ≤ 8 * (g : Int) := by omega
      have s1 : 8 * (g : Int) ≤ 64 := by omega
      have s2 : (8 * (g : Int)).toNat = 8 * g := by omega
      have hfit : Fits ((xs ++ (encInt n).take j).length + 1) := hl.le (by rw [List.length_append, List.length_take, encInt_length]; omega)
      generalize hz : xs ++ (encInt n).take j = zs at *
      have HZ := Lib.hid hz
      have HR := Lib.hid (And.intro hown hgr)
      clear e5 hz hgr
      unfold OwnB at hown
      have hbw : base ≤ wr.heap.size := by omega
      go_wp2_with (at_builtin; refine wpList_append_lies _ rfl (.tmp 10) (.tmp 17) 29 rfl base 5 i0 (.int .u8 0) 1 1 Tryd.underlying29 hi hz0 hz1 hz2 rfl (by decide) u0 zs.length (bcells zs) rfl (hown.alloc _) ⟨wr.heap.size, 0, none⟩ 1 1 (bcells [byteOf (n / 2 ^ (8 * g))]) rfl rfl ?c1 (bcells_oneCell _) (by decide) hfit.max hfit.reach (by simp; omega) (wr.heap.size + 1) (by simp) ?_)
      case c1 =>
        intro j u hj
        match j, hj with
        | 0, hj =>
          have e := byte_u64 n g hg8
          have e2 := wrap_byteOf (IntKind.u64.wrap n / 2 ^ (8 * g))
          rw [show n % 18446744073709551616 = IntKind.u64.wrap n from rfl] at e
          have e4 := byteOf_mod (IntKind.u64.wrap n / 2 ^ (8 * g))
          rw [e] at e4
          simp only [bcells, List.map_cons, List.map_nil, List.getElem?_cons_zero, Option.some.injEq] at hj
          subst hj
          simp [Addr.add, e4]
      intro g' cap w1 hown1 hgrow hg hlt
      have fin : GrewPost w base v (zs ++ [byteOf (n / 2 ^ (8 * g))]) (.returned (.slice (some ⟨g', 0, none⟩) (zs.length + 1) cap)) w1 := by
        refine ⟨_, rfl, by unfold OwnB; simpa [bcells] using hown1, HR.out.2.trans (grew_of (below_alloc wr _) hgrow (hg.imp id (fun h => by omega)) (S := wr.heap.size + 1) (by omega))⟩
      have F := Lib.hid fin
      clear fin hown hown1 hgrow hg
      go_wp2
      go_roundg g
      case measure => omega
      case rel =>
        obtain ⟨v', e, ho, hg⟩ := F.out
        cases e
        refine ⟨j + 1, by omega, by first | rfl | go_num, ?_, hg⟩
        rw [encInt_take n j g (by omega), ← List.append_assoc, HZ.out]
        exact ho
end Go.Proofs.YtehkgcmdndehaaaDoor

namespace Go.Proofs.YtehkgcmdndehaaaDoor
open Go.RowKit
def AnsD.value (a : AnsD) : Value := .agg a.cells
end Go.Proofs.YtehkgcmdndehaaaDoor

