/-
  Plain data of accounts: their cells, their bytes. No program in sight.
-/
/-
  Plain words: what is written is read back, what is read without fault is written the same (rec's reader). No program in sight.
-/
/-
  Plain words: plans and statements, written and read. No program in sight.
-/
import Derived.Test.YtehkgcmdndehaaaDoorGPRA02
import Derived.Test.YtehkgcmdndehaaaDoorGPRA09
import Derived.Deep.MidRow
import Derived.Test.YtehkgcmdndehaaaDoorGPRA11
import Derived.Test.YtehkgcmdndehaaaDoorGPRA10
namespace Go.Proofs.YtehkgcmdndehaaaDoor
set_option linter.unusedSimpArgs false
set_option linter.unusedVariables false
open Go.RowKit

structure LotD where
  id : Int
  kind : Int
  frm : Int
  till : Int
  granted : Int
  consumed : Int
  held : Int
  expired : Int
  rolled : Int
structure PartD where
  lot : Int
  n : Int
structure HoldD where
  id : Int
  parts : List PartD
  over : Int
  till : Int
structure EntryD where
  id : Int
  ans : AnsD
structure AccD where
  name : ByteArray
  key : ByteArray
  plan : PlanD
  term : Int
  frm : Int
  till : Int
  lots : List LotD
  next : Int
  over : Int
  holds : List HoldD
  window : List EntryD

def LotD.nums (l : LotD) : List Int := [l.id, l.kind, l.frm, l.till, l.granted, l.consumed, l.held, l.expired, l.rolled]
def LotD.cells (l : LotD) : Array Value := #[.int .i64 l.id, .int .i64 l.kind, .int .i64 l.frm, .int .i64 l.till, .int .i64 l.granted, .int .i64 l.consumed, .int .i64 l.held, .int .i64 l.expired, .int .i64 l.rolled]
def PartD.cells (p : PartD) : Array Value := #[.int .i64 p.lot, .int .i64 p.n]
def HoldD.cells (h : HoldD) (pv : Value) : Array Value := #[.int .i64 h.id, pv, .int .i64 h.over, .int .i64 h.till]
def EntryD.cells (e : EntryD) : Array Value := #[.int .i64 e.id, .int .i64 e.ans.err, .int .i64 e.ans.left, .int .i64 e.ans.over, .int .i64 e.ans.n,
  .string e.ans.stmt.name, .int .i64 e.ans.stmt.term, .int .i64 e.ans.stmt.frm, .int .i64 e.ans.stmt.till, .int .i64 e.ans.stmt.granted, .int .i64 e.ans.stmt.consumed, .int .i64 e.ans.stmt.expired, .int .i64 e.ans.stmt.rolled, .int .i64 e.ans.stmt.over]
def AccD.cells (a : AccD) (lv hv wv : Value) : Array Value := #[.string a.name, .string a.key,
  .string a.plan.name, .int .i64 a.plan.version, .int .i64 a.plan.allowance, .int .i64 a.plan.kind, .int .i64 a.plan.anchor, .int .i64 a.plan.days, .int .i64 a.plan.cap, .int .i64 a.plan.mode, .int .i64 a.plan.burst, .int .i64 a.plan.rate,
  .int .i64 a.term, .int .i64 a.frm, .int .i64 a.till, lv, .int .i64 a.next, .int .i64 a.over, hv, wv]

def encLot (l : LotD) : List UInt8 := encInts l.nums
def encPart (p : PartD) : List UInt8 := encInts [p.lot, p.n]
def encParts (ps : List PartD) : List UInt8 := ps.flatMap encPart
def encHold (h : HoldD) : List UInt8 := encInts [h.id] ++ [byteOf h.parts.length] ++ encParts h.parts ++ encInts [h.over, h.till]
def encEntry (e : EntryD) : List UInt8 := encInts [e.id] ++ encAns e.ans
def encLots (ls : List LotD) : List UInt8 := ls.flatMap encLot
def encHolds (hs : List HoldD) : List UInt8 := hs.flatMap encHold
def encEntries (es : List EntryD) : List UInt8 := es.flatMap encEntry
def encLists (a : AccD) : List UInt8 := [byteOf a.lots.length] ++ encLots a.lots ++ encInts [a.next, a.over] ++ [byteOf a.holds.length] ++ encHolds a.holds ++ [byteOf a.window.length] ++ encEntries a.window
def encAcc (a : AccD) : List UInt8 := encText a.name ++ encText a.key ++ encPlan a.plan ++ encInts [a.term, a.frm, a.till] ++ encLists a

theorem flat_take {α β : Type} (f : α → List β) (ls : List α) (k : Nat) (l : α) (h : ls[k]? = some l) : (ls.take (k + 1)).flatMap f = (ls.take k).flatMap f ++ f l := by
  obtain ⟨hk, h⟩ := List.getElem?_eq_some_iff.1 h
  rw [List.take_succ_eq_append_getElem hk, h, List.flatMap_append]
  simp
theorem flat_take_le {α β : Type} (f : α → List β) (ls : List α) (k : Nat) : ((ls.take k).flatMap f).length ≤ (ls.flatMap f).length := by
  have h : ls.flatMap f = (ls.take k).flatMap f ++ (ls.drop k).flatMap f := by
    rw [← List.flatMap_append, List.take_append_drop]
  rw [h, List.length_append]; omega

/-- The block of a slice that is not empty. -/
def liveB : Value → Option Nat
  | .slice (some a) (_ + 1) _ => some a.block
  | _ => none
theorem live_own {v : Value} {k : Nat} (h : liveB v = some k) : v.ownBlock = some k := by
  unfold liveB at h
  split at h
  · exact h
  · cases h
/-- The value v reads as rows of n cells each (an empty slice may point anywhere). -/
def Items (w : World) (v : Value) (n : Nat) (xs : List (List Value)) : Prop :=
  (xs = [] ∧ ∃ a c, v = .slice a 0 c) ∨
  ∃ b off cap, v = .slice (some ⟨b, off, none⟩) xs.length cap ∧ xs.length ≤ cap ∧ b < w.heap.size ∧ ∀ i x, xs[i]? = some x → x.length = n ∧ w.rangeAt b (off + i * n) x

theorem Items.len {w : World} {v : Value} {n : Nat} {xs : List (List Value)} (h : Items w v n xs) : ∃ a c, v = .slice a xs.length c := by
  rcases h with ⟨rfl, a, c, rfl⟩ | ⟨b, off, cap, rfl, _⟩
  · exact ⟨a, c, rfl⟩
  · exact ⟨_, _, rfl⟩
theorem rangeAt_block {w w' : World} {b o : Nat} {x : List Value} (h : w.rangeAt b o x) (hb : w'.heap[b]? = w.heap[b]?) : w'.rangeAt b o x :=
  fun j u hj => (World.cell?_of_block (a := ⟨b, o + j, none⟩) hb).trans (h j u hj)
theorem Items.of_block {w w' : World} {v : Value} {n : Nat} {xs : List (List Value)} (h : Items w v n xs) (hs : w.heap.size ≤ w'.heap.size) (hb : ∀ k, liveB v = some k → k < w.heap.size → w'.heap[k]? = w.heap[k]?) : Items w' v n xs := by
  rcases h with h | ⟨b, off, cap, rfl, hc, hlt, hx⟩
  · exact .inl h
  · exact .inr ⟨b, off, cap, rfl, hc, by omega, fun i x hi => ⟨(hx i x hi).1, rangeAt_block (hx i x hi).2 (hb b (by have := (List.getElem?_eq_some_iff.1 hi).1; obtain ⟨m, hm⟩ : ∃ m, xs.length = m + 1 := ⟨xs.length - 1, by omega⟩; rw [hm]; rfl) hlt)⟩⟩
theorem Items.below {w w' : World} {v : Value} {n : Nat} {xs : List (List Value)} (h : Items w v n xs) (hB : Below w.heap.size w w') : Items w' v n xs :=
  h.of_block hB.size (fun k _ hk => hB.block k hk)
theorem Items.own_lt {w : World} {v : Value} {n : Nat} {xs : List (List Value)} (h : Items w v n xs) : ∀ k, liveB v = some k → k < w.heap.size := by
  intro k hk
  rcases h with ⟨_, a, c, rfl⟩ | ⟨b, off, cap, rfl, _, hb, _⟩
  · unfold liveB at hk; split at hk; · rename_i h2; cases h2
    · cases hk
  · have := live_own hk
    simp [Value.ownBlock] at this; omega

def RdParts (w : World) (v : Value) (ps : List PartD) : Prop := Items w v 2 (ps.map (·.cells.toList))
def RdLots (w : World) (v : Value) (ls : List LotD) : Prop := Items w v 9 (ls.map (·.cells.toList))
def RdWin (w : World) (v : Value) (es : List EntryD) : Prop := Items w v 14 (es.map (·.cells.toList))
/-- Holds: each one's parts are a slice of their own. -/
def RdHolds (w : World) (v : Value) (hs : List (HoldD × Value)) : Prop := Items w v 4 (hs.map (fun h => (h.1.cells h.2).toList)) ∧ ∀ h ∈ hs, RdParts w h.2 h.1.parts
theorem RdHolds.below {w w' : World} {v : Value} {hs : List (HoldD × Value)} (h : RdHolds w v hs) (hB : Below w.heap.size w w') : RdHolds w' v hs :=
  ⟨h.1.below hB, fun x hx => Items.below (h.2 x hx) hB⟩
theorem planCells_at (p : PlanD) (k : Nat) (n : Int) (h : p.nums[k]? = some n) : p.cells[k + 1]? = some (.int .i64 n) := by
  match k, h with
  | 0, h | 1, h | 2, h | 3, h | 4, h | 5, h | 6, h | 7, h | 8, h => cases h; rfl
  | k + 9, h => simp [PlanD.nums] at h
theorem stmtCells_at (p : StmtD) (k : Nat) (n : Int) (h : p.nums[k]? = some n) : p.cells[k + 1]? = some (.int .i64 n) := by
  match k, h with
  | 0, h | 1, h | 2, h | 3, h | 4, h | 5, h | 6, h | 7, h => cases h; rfl
  | k + 8, h => simp [StmtD.nums] at h
theorem lotCells_at (p : LotD) (k : Nat) (n : Int) (h : p.nums[k]? = some n) : p.cells[k]? = some (.int .i64 n) := by
  match k, h with
  | 0, h | 1, h | 2, h | 3, h | 4, h | 5, h | 6, h | 7, h | 8, h => cases h; rfl
  | k + 9, h => simp [LotD.nums] at h
end Go.Proofs.YtehkgcmdndehaaaDoor

namespace Go.Proofs.YtehkgcmdndehaaaDoor
set_option linter.unusedSimpArgs false
set_option linter.unusedVariables false
open Go.RowKit

theorem retake_enc (a b : List UInt8) (n : Nat) (h : n = a.length) : Re.take ⟨a ++ b, 0⟩ n = (a, ⟨b, 0⟩) := by
  subst h
  unfold Re.take
  rw [if_neg (by simp)]
  simp
theorem reone_enc (x : UInt8) (b : List UInt8) : Re.one ⟨x :: b, 0⟩ = ((x.toNat : Int), ⟨b, 0⟩) := by
  unfold Re.one
  rw [show x :: b = [x] ++ b from rfl, retake_enc [x] b 1 rfl]
  rfl
theorem reint_enc (n : Int) (b : List UInt8) (h : I64 n) : Re.int ⟨encInt n ++ b, 0⟩ = (n, ⟨b, 0⟩) := by
  unfold Re.int
  rw [retake_enc _ b 8 (by rw [encInt_length]), dec_enc n h]
theorem reints_enc : ∀ (ns : List Int) (b : List UInt8), (∀ n ∈ ns, I64 n) → Re.ints ns.length ⟨encInts ns ++ b, 0⟩ = (ns, ⟨b, 0⟩)
  | [], b, _ => rfl
  | n :: r, b, h => by
    have e : encInts (n :: r) ++ b = encInt n ++ (encInts r ++ b) := by simp [encInts]
    rw [e, List.length_cons, Re.ints, reint_enc n _ (h n (by simp))]
    simp only [reints_enc r b (fun m hm => h m (by simp [hm]))]
theorem restr_enc (s : ByteArray) (b : List UInt8) (h : s.size ≤ 255) : Re.str ⟨encText s ++ b, 0⟩ = (s.data.toList, ⟨b, 0⟩) := by
  have e : encText s ++ b = byteOf s.size :: (s.data.toList ++ b) := rfl
  have hb : ((byteOf s.size).toNat : Int) = s.size := by rw [byteOf_mod]; omega
  have e2 : s.size = s.data.toList.length := by rw [Array.length_toList]; rfl
  unfold Re.str
  rw [e, reone_enc]
  simp only [hb, Int.toNat_natCast]
  rw [retake_enc _ _ _ e2]
  simp
theorem retake_err (r : Re) (n : Nat) (h : (r.take n).2.err = 0) : r.err = 0 ∧ r.bs = (r.take n).1 ++ (r.take n).2.bs ∧ (r.take n).1.length = n := by
  unfold Re.take at *
  split at h
  · unfold Re.fail at h
    split at h
    · simp at h
    · contradiction
  · rename_i h2
    rw [if_neg h2]
    simp at h2
    exact ⟨h2.1, by simp, by simp; omega⟩
theorem reone_dec (r : Re) (h : r.one.2.err = 0) : r.err = 0 ∧ r.bs = byteOf r.one.1 :: r.one.2.bs := by
  obtain ⟨h1, h2, h3⟩ := retake_err r 1 h
  refine ⟨h1, ?_⟩
  unfold Re.one
  obtain ⟨x, hx⟩ : ∃ x, (r.take 1).1 = [x] := by
    match hh : (r.take 1).1, h3 with
    | [x], _ => exact ⟨x, rfl⟩
  rw [hx] at h2 ⊢
  rw [h2]
  simp [byteOf_u8]
theorem reint_dec (r : Re) (h : r.int.2.err = 0) : r.err = 0 ∧ r.bs = encInt r.int.1 ++ r.int.2.bs := by
  obtain ⟨h1, h2, h3⟩ := retake_err r 8 h
  exact ⟨h1, by unfold Re.int; simp only; rw [enc_dec _ h3]; exact h2⟩
theorem reints_dec : ∀ (n : Nat) (r : Re), (Re.ints n r).2.err = 0 → r.err = 0 ∧ r.bs = encInts (Re.ints n r).1 ++ (Re.ints n r).2.bs
  | 0, r, h => ⟨h, by simp [Re.ints, encInts]⟩
  | n + 1, r, h => by
    obtain ⟨h1, h2⟩ := reints_dec n r.int.2 h
    obtain ⟨h3, h4⟩ := reint_dec r h1
    refine ⟨h3, ?_⟩
    rw [h4, Re.ints]
    simp only [encInts, List.flatMap_cons, List.append_assoc]
    rw [encInts] at h2
    rw [← h2]
theorem reone_bd (r : Re) : 0 ≤ r.one.1 ∧ r.one.1 ≤ 255 := by
  unfold Re.one
  have := ((r.take 1).1.getD 0 0).toNat_lt
  simp only
  omega
theorem restr_dec (r : Re) (h : r.str.2.err = 0) : r.err = 0 ∧ r.bs = encText (strB r.str.1) ++ r.str.2.bs ∧ r.str.1.length ≤ 255 := by
  have hb := reone_bd r
  have h' : (r.one.2.take r.one.1.toNat).2.err = 0 := h
  obtain ⟨h1, h2, h3⟩ := retake_err _ _ h'
  obtain ⟨h4, h5⟩ := reone_dec r h1
  have e : r.str = ((r.one.2.take r.one.1.toNat).1, (r.one.2.take r.one.1.toNat).2) := by
    unfold Re.str
    simp only
    rw [if_neg (by simp [h'])]
  rw [e]
  refine ⟨h4, ?_, by rw [h3]; omega⟩
  rw [h5, h2]
  simp only [encText, strB_toList, strB_size, h3]
  rw [Int.toNat_of_nonneg hb.1]
  rfl
end Go.Proofs.YtehkgcmdndehaaaDoor

namespace Go.Proofs.YtehkgcmdndehaaaDoor
set_option linter.unusedSimpArgs false
set_option linter.unusedVariables false
open Go.RowKit

theorem strB_list (s : ByteArray) : strB s.data.toList = s := strB_data s
theorem planOf_self (p : PlanD) : planOf p.name.data.toList p.nums = p := by
  unfold planOf
  rw [strB_data]
  rfl
theorem stmtOf_self (p : StmtD) : stmtOf p.name.data.toList p.nums = p := by
  unfold stmtOf
  rw [strB_data]
  rfl
theorem planOf_nums (bs : List UInt8) (l : List Int) (h : l.length = 9) : (planOf bs l).nums = l := by
  match l, h with
  | [a, b, c, d, e, f, g, k, m], _ => rfl
def PlanFit (p : PlanD) : Prop := p.name.size ≤ 255 ∧ ∀ n ∈ p.nums, I64 n
def StmtFit (p : StmtD) : Prop := p.name.size ≤ 255 ∧ ∀ n ∈ p.nums, I64 n
theorem planRd_enc (p : PlanD) (b : List UInt8) (h : PlanFit p) : planRd ⟨encPlan p ++ b, 0⟩ = (p, ⟨b, 0⟩) := by
  unfold planRd encPlan
  rw [List.append_assoc, restr_enc _ _ h.1]
  have e := reints_enc p.nums b h.2
  rw [show p.nums.length = 9 from rfl] at e
  simp only [e, planOf_self]
theorem stmtRd_enc (p : StmtD) (b : List UInt8) (h : StmtFit p) : stmtRd ⟨encStmt p ++ b, 0⟩ = (p, ⟨b, 0⟩) := by
  unfold stmtRd encStmt
  rw [List.append_assoc, restr_enc _ _ h.1]
  have e := reints_enc p.nums b h.2
  rw [show p.nums.length = 8 from rfl] at e
  simp only [e, stmtOf_self]
theorem planRd_dec (r : Re) (h : (planRd r).2.err = 0) : r.err = 0 ∧ r.bs = encPlan (planRd r).1 ++ (planRd r).2.bs ∧ (planRd r).1.name.size ≤ 255 := by
  unfold planRd at *
  simp only at *
  obtain ⟨h1, h2⟩ := reints_dec 9 _ h
  obtain ⟨h3, h4, h5⟩ := restr_dec r h1
  refine ⟨h3, ?_, by show (strB r.str.1).size ≤ 255; rw [strB_size]; exact h5⟩
  rw [h4, h2, encPlan, planOf_nums _ _ (Re.ints_length _ _), List.append_assoc]
  rfl
theorem stmtRd_dec (r : Re) (h : (stmtRd r).2.err = 0) : r.err = 0 ∧ r.bs = encStmt (stmtRd r).1 ++ (stmtRd r).2.bs ∧ (stmtRd r).1.name.size ≤ 255 := by
  unfold stmtRd at *
  simp only at *
  obtain ⟨h1, h2⟩ := reints_dec 8 _ h
  obtain ⟨h3, h4, h5⟩ := restr_dec r h1
  refine ⟨h3, ?_, by show (strB r.str.1).size ≤ 255; rw [strB_size]; exact h5⟩
  rw [h4, h2, encStmt, eight_nums _ _ (Re.ints_length _ _), List.append_assoc]
  rfl
theorem parsePlan_enc (p : PlanD) (h : PlanFit p) : parsePlan (encPlan p) = (p, 0) := by
  have := planRd_enc p [] h
  rw [List.append_nil] at this
  rw [parsePlan_eq, this]
  rfl
theorem parseStmt_enc (p : StmtD) (h : StmtFit p) : parseStmt (encStmt p) = (p, 0) := by
  have := stmtRd_enc p [] h
  rw [List.append_nil] at this
  rw [parseStmt_eq, this]
  rfl
theorem planEnd_zero {r : Re} (h : planEnd r = 0) : r.err = 0 ∧ r.bs = [] := by
  unfold planEnd at h
  split at h
  · cases h
  · rename_i hn
    exact ⟨h, by rcases hb : r.bs with _ | _; rfl; exact absurd ⟨h, by rw [hb]; simp⟩ hn⟩
theorem parsePlan_dec (bs : List UInt8) (h : (parsePlan bs).2 = 0) : encPlan (parsePlan bs).1 = bs ∧ (parsePlan bs).1.name.size ≤ 255 := by
  rw [parsePlan_eq] at *
  split at h
  · exact absurd h ‹_›
  · rename_i hz
    rw [if_neg hz]
    obtain ⟨h1, h2⟩ := planEnd_zero (Decidable.not_not.1 hz)
    obtain ⟨h3, h4, h5⟩ := planRd_dec _ h1
    rw [h2, List.append_nil] at h4
    exact ⟨h4.symm, h5⟩
theorem parseStmt_dec (bs : List UInt8) (h : (parseStmt bs).2 = 0) : encStmt (parseStmt bs).1 = bs ∧ (parseStmt bs).1.name.size ≤ 255 := by
  rw [parseStmt_eq] at *
  split at h
  · exact absurd h ‹_›
  · rename_i hz
    rw [if_neg hz]
    obtain ⟨h1, h2⟩ := planEnd_zero (Decidable.not_not.1 hz)
    obtain ⟨h3, h4, h5⟩ := stmtRd_dec _ h1
    rw [h2, List.append_nil] at h4
    exact ⟨h4.symm, h5⟩
end Go.Proofs.YtehkgcmdndehaaaDoor

