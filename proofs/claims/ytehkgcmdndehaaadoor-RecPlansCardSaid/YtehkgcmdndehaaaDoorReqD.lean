/-
  Plain data of requests: no program in sight.
-/
import Derived.Test.YtehkgcmdndehaaaDoorBase
namespace Go.Proofs.YtehkgcmdndehaaaDoor
set_option linter.unusedSimpArgs false
set_option linter.unusedVariables false
open Go.RowKit

structure PlanD where
  name : ByteArray
  version : Int
  allowance : Int
  kind : Int
  anchor : Int
  days : Int
  cap : Int
  mode : Int
  burst : Int
  rate : Int

structure ReqD where
  kind : Int
  key : ByteArray
  id : Int
  n : Int
  ttl : Int
  of : Int
  name : ByteArray
  secret : ByteArray
  plan : PlanD

def PlanD.nums (p : PlanD) : List Int := [p.version, p.allowance, p.kind, p.anchor, p.days, p.cap, p.mode, p.burst, p.rate]

def PlanD.value (p : PlanD) : Value := .agg #[.string p.name, .int .i64 p.version, .int .i64 p.allowance, .int .i64 p.kind, .int .i64 p.anchor, .int .i64 p.days, .int .i64 p.cap, .int .i64 p.mode, .int .i64 p.burst, .int .i64 p.rate]

def ReqD.cells (q : ReqD) : Array Value := #[.int .i64 q.kind, .string q.key, .int .i64 q.id, .int .i64 q.n, .int .i64 q.ttl, .int .i64 q.of, .string q.name, .string q.secret,
  .string q.plan.name, .int .i64 q.plan.version, .int .i64 q.plan.allowance, .int .i64 q.plan.kind, .int .i64 q.plan.anchor, .int .i64 q.plan.days, .int .i64 q.plan.cap, .int .i64 q.plan.mode, .int .i64 q.plan.burst, .int .i64 q.plan.rate]

def encPlan (p : PlanD) : List UInt8 := encText p.name ++ encInts p.nums
theorem encPlan_length (p : PlanD) : (encPlan p).length = p.name.size + 73 := by
  rw [encPlan, List.length_append, encText_length, encInts_length]
  simp [PlanD.nums]

def ReqD.value (q : ReqD) : Value := .agg q.cells
/-- The block of a 'request' that is written: a row, and the request. -/
def ReqD.row (q : ReqD) : Array Value := #[.slice none 0 0, .bool false, .int .i64 q.kind, .string q.key, .int .i64 q.id, .int .i64 q.n, .int .i64 q.ttl, .int .i64 q.of, .string q.name, .string q.secret,
  .string q.plan.name, .int .i64 q.plan.version, .int .i64 q.plan.allowance, .int .i64 q.plan.kind, .int .i64 q.plan.anchor, .int .i64 q.plan.days, .int .i64 q.plan.cap, .int .i64 q.plan.mode, .int .i64 q.plan.burst, .int .i64 q.plan.rate]

/-- Is there such a kind? -/
def kindB (k : Int) : Bool := decide ((1 ≤ k ∧ k ≤ 5) ∨ (16 ≤ k ∧ k ≤ 20))

/-- Where a kind's numbers ahead of its texts stand in the block of a 'request'; its texts; its numbers behind them. -/
def numOffs (k : Int) : List Nat :=
  if k = 1 ∨ k = 4 then [4, 5, 6] else if k = 2 then [4, 7, 5] else if k = 3 then [4, 7] else if k = 19 then [5] else []
def textOffs (k : Int) : List Nat :=
  if k = 17 then [8, 9, 10] else if k = 18 then [8, 10] else if k = 20 then [8] else []
def moreOffs (k : Int) : List Nat :=
  if k = 17 ∨ k = 18 then [11] else if k = 20 then [5] else []

/-- Where the numbers of a kind of record stand in the block of a 'record'. -/
def recOffs (k : Int) : List Nat :=
  if k = 0 then [3, 4, 5, 6, 7, 8, 9, 10, 11] else if k = 1 then [13, 14, 15, 16, 17, 18, 19, 20] else if k = 3 then [34, 35, 36, 37, 38, 39, 40, 41, 42]
  else if k = 2 then [22, 23, 24] else [73, 74, 75]

/-- What a kind's numbers, texts, numbers are. -/
def ReqD.nums (q : ReqD) : List Int :=
  if q.kind = 1 ∨ q.kind = 4 then [q.id, q.n, q.ttl] else if q.kind = 2 then [q.id, q.of, q.n] else if q.kind = 3 then [q.id, q.of] else if q.kind = 19 then [q.n] else []
def ReqD.texts (q : ReqD) : List ByteArray :=
  if q.kind = 17 then [q.name, q.secret, q.plan.name] else if q.kind = 18 then [q.name, q.plan.name] else if q.kind = 20 then [q.name] else []
def ReqD.more (q : ReqD) : List Int :=
  if q.kind = 17 ∨ q.kind = 18 then [q.plan.version] else if q.kind = 20 then [q.n] else []
def longB (s : ByteArray) : Bool := decide (255 < s.size)
/-- Is one of its texts too long? -/
def ReqD.long (q : ReqD) : Bool := longB q.key || (if q.kind = 16 then [q.plan.name] else q.texts).any longB
/-- A request's bytes. -/
def ReqD.bytes (q : ReqD) : List UInt8 :=
  byteOf q.kind :: encText q.key ++ encInts q.nums ++ encTexts q.texts ++ encInts q.more ++ (if q.kind = 16 then encPlan q.plan else [])

/-- Pointers to places of the block rb, in a new block. -/
def PtrsPost (w : World) (rb : Nat) (offs : List Nat) (e : Ending) (w' : World) : Prop :=
  ∃ ao, e = .returned (.slice ao offs.length offs.length) ∧ Below w.heap.size w w' ∧
    ∀ k o, offs[k]? = some o → ∃ nb, ao = some ⟨nb, 0, none⟩ ∧ w.heap.size ≤ nb ∧ nb < w'.heap.size ∧ w'.cell? ⟨nb, k, none⟩ = some (.pointer (some ⟨rb, o, none⟩))

theorem ptrs_nil (w : World) (rb : Nat) : PtrsPost w rb [] (.returned (.slice none 0 0)) w := ⟨none, rfl, Below.refl _ _, fun k o h => by simp at h⟩

theorem ptrs_block (w w' : World) (rb : Nat) (offs : List Nat) (n : Nat) (T : TypeId) (hn : n = offs.length) (hB : Below w.heap.size w w')
    (hb : w'.heap[w.heap.size]? = some (.cells (offs.map fun o => Value.pointer (some ⟨rb, o, none⟩)).toArray T (0, 0))) : PtrsPost w rb offs (.returned (.slice (some ⟨w.heap.size, 0, none⟩) n n)) w' := by
  subst hn
  refine ⟨_, rfl, hB, fun k o h => ⟨_, rfl, Nat.le_refl _, (Array.getElem?_eq_some_iff.1 hb).1, ?_⟩⟩
  rw [cell_of_row w' _ _ _ _ _ hb]
  simp [h]

end Go.Proofs.YtehkgcmdndehaaaDoor
