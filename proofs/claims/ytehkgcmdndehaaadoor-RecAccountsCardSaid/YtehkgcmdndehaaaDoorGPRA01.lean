/-
  Slices of bytes that are read: no program in sight.
-/
/-
  Plain words: how numbers and texts are read off bytes. No program in sight.
-/
/-
  Plain data of requests: no program in sight.
-/
/-
  Plain facts of a request's row: which cells its numbers and texts are.
-/
import Derived.Test.YtehkgcmdndehaaaDoorGPRA00
import Derived.Laws.BytesArg
namespace Go.Proofs.YtehkgcmdndehaaaDoor
set_option linter.unusedSimpArgs false
set_option linter.unusedVariables false
open Go.RowKit

/-- A string of bytes. -/
def strB (zs : List UInt8) : ByteArray := ⟨zs.toArray⟩
theorem strB_data (s : ByteArray) : strB s.data.toList = s := by cases s; simp [strB]
theorem strB_size (zs : List UInt8) : (strB zs).size = zs.length := by simp [strB, ByteArray.size]
theorem strB_toList (zs : List UInt8) : (strB zs).data.toList = zs := by simp [strB]
theorem strB_inj {a b : List UInt8} : strB a = strB b ↔ a = b := by
  constructor
  · intro h; have := congrArg (fun s : ByteArray => s.data.toList) h; simpa [strB] using this
  · intro h; rw [h]

/-- The value v reads as the bytes zs. -/
def Reads (w : World) (v : Value) (zs : List UInt8) : Prop :=
  (v = .slice none 0 0 ∧ zs = []) ∨
  ∃ b off cap, v = .slice (some ⟨b, off, none⟩) zs.length cap ∧ zs.length ≤ cap ∧ b < w.heap.size ∧ ∀ (i : Nat) (x : UInt8), zs[i]? = some x → w.cell? ⟨b, off + i, none⟩ = some (.int .u8 (x.toNat : Int))

theorem Reads.nil (w : World) : Reads w (.slice none 0 0) [] := .inl ⟨rfl, rfl⟩

theorem Reads.of_own {w : World} {base : Nat} {v : Value} {zs : List UInt8} (h : w.ownsRow base 5 1 v zs.length (bcells zs)) : Reads w v zs := by
  rcases h.2 with ⟨rfl, h0⟩ | ⟨g, cap, cur, rfl, _, hg, hn, hm, hs, ht⟩
  · exact .inl ⟨rfl, List.eq_nil_of_length_eq_zero h0⟩
  · refine .inr ⟨g, 0, cap, rfl, hn, (Array.getElem?_eq_some_iff.1 hg).1, fun i x hx => ?_⟩
    have h2 : (bcells zs)[i]? = some (.int .u8 (x.toNat : Int)) := by simp [bcells, hx]
    rw [Nat.zero_add, cell_of_row w g i cur _ _ hg]
    rw [← ht, List.getElem?_take] at h2
    split at h2
    · simpa using h2
    · cases h2

theorem Reads.len {w : World} {v : Value} {zs : List UInt8} (h : Reads w v zs) : ∃ a c, v = .slice a zs.length c := by
  rcases h with ⟨rfl, rfl⟩ | ⟨b, off, cap, rfl, _⟩
  · exact ⟨none, 0, rfl⟩
  · exact ⟨_, _, rfl⟩

/-- What lies below a bound reads as it did. -/
theorem Reads.below {w w' : World} {v : Value} {zs : List UInt8} (h : Reads w v zs) (hB : Below w.heap.size w w') : Reads w' v zs := by
  rcases h with h | ⟨b, off, cap, hv, hc, hb, hx⟩
  · exact .inl h
  · exact .inr ⟨b, off, cap, hv, hc, Nat.lt_of_lt_of_le hb hB.size, fun i x h => (hB.cell (p := ⟨b, off + i, none⟩) hb).trans (hx i x h)⟩

theorem Reads.drew {w : World} {v : Value} {zs : List UInt8} (h : Reads w v zs) : Reads w.drew v zs := h

section
variable {P : Program} {w : World}
theorem run_string_of (src dst e : TypeId) (hs : P.underlying src = some (.slice e)) (he : P.underlying e = some (.int .u8)) (hd : P.underlying dst = some .string) {v : Value} {zs : List UInt8} (h : Reads w v zs) :
    (convert src dst v).run P w = .ok (.string (strB zs)) w := by
  rcases h with ⟨rfl, rfl⟩ | ⟨b, off, cap, rfl, hc, hb, hx⟩
  · rw [run_convert_bytes_nil w src e hs he 0 0 dst hd]; rfl
  · rw [run_convert_bytes_arg w src e hs he b off zs.length cap (zs.map fun x => (x.toNat : Int)) (by simp) (fun i hi => by
      rw [hx i zs[i] (List.getElem?_eq_getElem hi)]
      simp [List.getD, hi]) dst hd]
    have e : strOfNums (zs.map fun x => (x.toNat : Int)) = strB zs := by
      unfold strOfNums strB
      congr 2
      rw [List.map_map]
      conv => rhs; rw [← List.map_id zs]
      apply List.map_congr_left
      intro x _
      simp
    rw [e]

theorem wp_string_of {o : Oper} {a : Act} {K : Act → World → Prop} {Q : Exit → Act → World → Prop} (src dst e : TypeId) (x : Operand) (ho : o.op = .convert src dst x)
    (hs : P.underlying src = some (.slice e)) (he : P.underlying e = some (.int .u8)) (hd : P.underlying dst = some .string) (v : Value) (zs : List UInt8) (hx : a.eval x = v) (h : Reads w v zs)
    (hK : K (a.put o.dst (.string (strB zs))) w) : o.wp P a w K Q := by
  unfold Oper.wp execOp
  simp only [ho, Sem.run_bind, hx, run_string_of src dst e hs he hd h, Result.andThen_ok, Sem.run_pure]
  exact hK
/-- 'string(b)' at an operation that is not passed over. -/
theorem wpList_string_of {ops : Array Oper} {rest : List Oper} {o : Oper} {a : Act} {Q : Exit → Act → World → Prop} (src dst e : TypeId) (x : Operand) (ho : o.op = .convert src dst x)
    (hs : P.underlying src = some (.slice e)) (he : P.underlying e = some (.int .u8)) (hd : P.underlying dst = some .string) (v : Value) (zs : List UInt8) (hx : a.eval x = v) (h : Reads w v zs)
    (hw : Region.wanted o (yielded ops a.tmps) = true) (hK : wpList P ops Q rest (a.put o.dst (.string (strB zs))) w) : wpList P ops Q (o :: rest) a w :=
  wpList_step fun K hk => by
    rw [if_pos hw]
    exact wp_string_of src dst e x ho hs he hd v zs hx h (hk _ _ hK)
end
end Go.Proofs.YtehkgcmdndehaaaDoor

namespace Go.Proofs.YtehkgcmdndehaaaDoor
set_option linter.unusedSimpArgs false
set_option linter.unusedVariables false
open Go.RowKit

/-- What is left to read, and whether bytes lacked. -/
structure Rd where
  bs : List UInt8
  cut : Bool

/-- n bytes are taken off: they, and what is left. -/
def Rd.take (r : Rd) (n : Nat) : List UInt8 × Rd :=
  if r.cut = true ∨ r.bs.length < n then (List.replicate n 0, ⟨r.bs, true⟩) else (r.bs.take n, ⟨r.bs.drop n, false⟩)
def Rd.one (r : Rd) : Int × Rd := ((((r.take 1).1.getD 0 0).toNat : Int), (r.take 1).2)
/-- The number of eight bytes. -/
def decNat (bs : List UInt8) : Nat := bs.foldl (fun n x => n * 256 + x.toNat) 0
def decInt (bs : List UInt8) : Int := IntKind.i64.wrap (decNat bs)
def Rd.int (r : Rd) : Int × Rd := (decInt (r.take 8).1, (r.take 8).2)
def Rd.str (r : Rd) : List UInt8 × Rd :=
  let a := r.one
  let b := a.2.take a.1.toNat
  (if b.2.cut then [] else b.1, b.2)
def Rd.ints : Nat → Rd → List Int × Rd
  | 0, r => ([], r)
  | n + 1, r => (r.int.1 :: (Rd.ints n r.int.2).1, (Rd.ints n r.int.2).2)

theorem Rd.take_length (r : Rd) (n : Nat) : (r.take n).1.length = n := by
  unfold Rd.take
  split
  · simp
  · simp only [List.length_take]; omega
theorem Rd.take_cut (r : Rd) (n : Nat) (h : r.cut = true) : (r.take n).2.cut = true := by unfold Rd.take; rw [if_pos (.inl h)]
theorem Rd.take_le (r : Rd) (n : Nat) : (r.take n).2.bs.length ≤ r.bs.length := by
  unfold Rd.take
  split
  · exact Nat.le_refl _
  · simp only [List.length_drop]; omega
theorem Rd.one_le (r : Rd) : r.one.2.bs.length ≤ r.bs.length := r.take_le 1
theorem Rd.int_le (r : Rd) : r.int.2.bs.length ≤ r.bs.length := r.take_le 8
theorem Rd.str_le (r : Rd) : r.str.2.bs.length ≤ r.bs.length := Nat.le_trans (r.one.2.take_le _) r.one_le
theorem Rd.ints_le : ∀ (n : Nat) (r : Rd), (Rd.ints n r).2.bs.length ≤ r.bs.length
  | 0, r => Nat.le_refl _
  | n + 1, r => Nat.le_trans (Rd.ints_le n r.int.2) r.int_le
theorem Rd.ints_length : ∀ (n : Nat) (r : Rd), (Rd.ints n r).1.length = n
  | 0, _ => rfl
  | n + 1, r => by simp [Rd.ints, Rd.ints_length n]
theorem Rd.ints_snoc : ∀ (n : Nat) (r : Rd), Rd.ints (n + 1) r = ((Rd.ints n r).1 ++ [(Rd.ints n r).2.int.1], (Rd.ints n r).2.int.2)
  | 0, r => rfl
  | n + 1, r => by
    rw [Rd.ints, Rd.ints_snoc n r.int.2]
    simp [Rd.ints]

theorem decNat_snoc (bs : List UInt8) (x : UInt8) : decNat (bs ++ [x]) = decNat bs * 256 + x.toNat := by simp [decNat]
theorem decNat_aux : ∀ (bs : List UInt8) (a : Nat), bs.foldl (fun n x => n * 256 + x.toNat) a < (a + 1) * 256 ^ bs.length
  | [], a => by simp
  | x :: r, a => by
    rw [List.foldl_cons, List.length_cons, Nat.pow_succ]
    have h := decNat_aux r (a * 256 + x.toNat)
    have hx := x.toNat_lt
    have h2 : (a * 256 + x.toNat + 1) * 256 ^ r.length ≤ ((a + 1) * 256) * 256 ^ r.length := Nat.mul_le_mul_right _ (by omega)
    have h3 : ((a + 1) * 256) * 256 ^ r.length = (a + 1) * (256 ^ r.length * 256) := by rw [Nat.mul_assoc, Nat.mul_comm 256]
    omega
theorem decNat_lt (bs : List UInt8) : decNat bs < 256 ^ bs.length := by
  have := decNat_aux bs 0
  simpa [decNat] using this
theorem decInt_zero (n : Nat) : decNat (List.replicate n 0) = 0 := by
  induction n with
  | zero => rfl
  | succ n ih => rw [List.replicate_succ', decNat_snoc, ih]; rfl
end Go.Proofs.YtehkgcmdndehaaaDoor

namespace Go.Proofs.YtehkgcmdndehaaaDoor
set_option linter.unusedSimpArgs false
set_option linter.unusedVariables false
open Go.RowKit

structure PlanD where
  name : ByteArray
  version : Int
  allowance : Int
  kind : Int
  anchor : Int
  days : Int
  cap : Int
  mode : Int
  burst : Int
  rate : Int

structure ReqD where
  kind : Int
  key : ByteArray
  id : Int
  n : Int
  ttl : Int
  of : Int
  name : ByteArray
  secret : ByteArray
  plan : PlanD

def PlanD.nums (p : PlanD) : List Int := [p.version, p.allowance, p.kind, p.anchor, p.days, p.cap, p.mode, p.burst, p.rate]

def PlanD.value (p : PlanD) : Value := .agg #[.string p.name, .int .i64 p.version, .int .i64 p.allowance, .int .i64 p.kind, .int .i64 p.anchor, .int .i64 p.days, .int .i64 p.cap, .int .i64 p.mode, .int .i64 p.burst, .int .i64 p.rate]

def ReqD.cells (q : ReqD) : Array Value := #[.int .i64 q.kind, .string q.key, .int .i64 q.id, .int .i64 q.n, .int .i64 q.ttl, .int .i64 q.of, .string q.name, .string q.secret,
  .string q.plan.name, .int .i64 q.plan.version, .int .i64 q.plan.allowance, .int .i64 q.plan.kind, .int .i64 q.plan.anchor, .int .i64 q.plan.days, .int .i64 q.plan.cap, .int .i64 q.plan.mode, .int .i64 q.plan.burst, .int .i64 q.plan.rate]

def encPlan (p : PlanD) : List UInt8 := encText p.name ++ encInts p.nums
theorem encPlan_length (p : PlanD) : (encPlan p).length = p.name.size + 73 := by
  rw [encPlan, List.length_append, encText_length, encInts_length]
  simp [PlanD.nums]

def ReqD.value (q : ReqD) : Value := .agg q.cells
/-- The block of a 'request' that is written: a row, and the request. -/
def ReqD.row (q : ReqD) : Array Value := #[.slice none 0 0, .bool false, .int .i64 q.kind, .string q.key, .int .i64 q.id, .int .i64 q.n, .int .i64 q.ttl, .int .i64 q.of, .string q.name, .string q.secret,
  .string q.plan.name, .int .i64 q.plan.version, .int .i64 q.plan.allowance, .int .i64 q.plan.kind, .int .i64 q.plan.anchor, .int .i64 q.plan.days, .int .i64 q.plan.cap, .int .i64 q.plan.mode, .int .i64 q.plan.burst, .int .i64 q.plan.rate]

/-- Is there such a kind? -/
def kindB (k : Int) : Bool := decide ((1 ≤ k ∧ k ≤ 5) ∨ (16 ≤ k ∧ k ≤ 20))

/-- Where a kind's numbers ahead of its texts stand in the block of a 'request'; its texts; its numbers behind them. -/
def numOffs (k : Int) : List Nat :=
  if k = 1 ∨ k = 4 then [4, 5, 6] else if k = 2 then [4, 7, 5] else if k = 3 then [4, 7] else if k = 19 then [5] else []
def textOffs (k : Int) : List Nat :=
  if k = 17 then [8, 9, 10] else if k = 18 then [8, 10] else if k = 20 then [8] else []
def moreOffs (k : Int) : List Nat :=
  if k = 17 ∨ k = 18 then [11] else if k = 20 then [5] else []

/-- Where the numbers of a kind of record stand in the block of a 'record'. -/
def recOffs (k : Int) : List Nat :=
  if k = 0 then [3, 4, 5, 6, 7, 8, 9, 10, 11] else if k = 1 then [13, 14, 15, 16, 17, 18, 19, 20] else if k = 3 then [34, 35, 36, 37, 38, 39, 40, 41, 42]
  else if k = 2 then [22, 23, 24] else [73, 74, 75]

/-- What a kind's numbers, texts, numbers are. -/
def ReqD.nums (q : ReqD) : List Int :=
  if q.kind = 1 ∨ q.kind = 4 then [q.id, q.n, q.ttl] else if q.kind = 2 then [q.id, q.of, q.n] else if q.kind = 3 then [q.id, q.of] else if q.kind = 19 then [q.n] else []
def ReqD.texts (q : ReqD) : List ByteArray :=
  if q.kind = 17 then [q.name, q.secret, q.plan.name] else if q.kind = 18 then [q.name, q.plan.name] else if q.kind = 20 then [q.name] else []
def ReqD.more (q : ReqD) : List Int :=
  if q.kind = 17 ∨ q.kind = 18 then [q.plan.version] else if q.kind = 20 then [q.n] else []
def longB (s : ByteArray) : Bool := decide (255 < s.size)
/-- Is one of its texts too long? -/
def ReqD.long (q : ReqD) : Bool := longB q.key || (if q.kind = 16 then [q.plan.name] else q.texts).any longB
/-- A request's bytes. -/
def ReqD.bytes (q : ReqD) : List UInt8 :=
  byteOf q.kind :: encText q.key ++ encInts q.nums ++ encTexts q.texts ++ encInts q.more ++ (if q.kind = 16 then encPlan q.plan else [])

/-- Pointers to places of the block rb, in a new block. -/
def PtrsPost (w : World) (rb : Nat) (offs : List Nat) (e : Ending) (w' : World) : Prop :=
  ∃ ao, e = .returned (.slice ao offs.length offs.length) ∧ Below w.heap.size w w' ∧
    ∀ k o, offs[k]? = some o → ∃ nb, ao = some ⟨nb, 0, none⟩ ∧ w.heap.size ≤ nb ∧ nb < w'.heap.size ∧ w'.cell? ⟨nb, k, none⟩ = some (.pointer (some ⟨rb, o, none⟩))

theorem ptrs_nil (w : World) (rb : Nat) : PtrsPost w rb [] (.returned (.slice none 0 0)) w := ⟨none, rfl, Below.refl _ _, fun k o h => by simp at h⟩

theorem ptrs_block (w w' : World) (rb : Nat) (offs : List Nat) (n : Nat) (T : TypeId) (hn : n = offs.length) (hB : Below w.heap.size w w')
    (hb : w'.heap[w.heap.size]? = some (.cells (offs.map fun o => Value.pointer (some ⟨rb, o, none⟩)).toArray T (0, 0))) : PtrsPost w rb offs (.returned (.slice (some ⟨w.heap.size, 0, none⟩) n n)) w' := by
  subst hn
  refine ⟨_, rfl, hB, fun k o h => ⟨_, rfl, Nat.le_refl _, (Array.getElem?_eq_some_iff.1 hb).1, ?_⟩⟩
  rw [cell_of_row w' _ _ _ _ _ hb]
  simp [h]

end Go.Proofs.YtehkgcmdndehaaaDoor

namespace Go.Proofs.YtehkgcmdndehaaaDoor
set_option linter.unusedSimpArgs false
set_option linter.unusedVariables false
open Go.RowKit

/-- A list of places and what stands there. -/
def PlacesI (cs : Array Value) (offs : List Nat) (ns : List Int) : Prop :=
  offs.length = ns.length ∧ ∀ (k o : Nat) (n : Int), offs[k]? = some o → ns[k]? = some n → cs[o]? = some (.int .i64 n) ∧ o ≠ 0
def PlacesS (cs : Array Value) (offs : List Nat) (ss : List ByteArray) : Prop :=
  offs.length = ss.length ∧ ∀ (k o : Nat) (s : ByteArray), offs[k]? = some o → ss[k]? = some s → cs[o]? = some (.string s) ∧ o ≠ 0

theorem PlacesI.nil (cs : Array Value) : PlacesI cs [] [] := ⟨rfl, fun k o n h => by simp at h⟩
theorem PlacesI.cons {cs : Array Value} {offs : List Nat} {ns : List Int} {o : Nat} {n : Int} (h : PlacesI cs offs ns) (hc : cs[o]? = some (.int .i64 n)) (ho : o ≠ 0) : PlacesI cs (o :: offs) (n :: ns) := by
  refine ⟨by simp [h.1], fun k o' n' h1 h2 => ?_⟩
  match k with
  | 0 => simp at h1 h2; subst h1; subst h2; exact ⟨hc, ho⟩
  | k + 1 => exact h.2 k o' n' (by simpa using h1) (by simpa using h2)
theorem PlacesS.nil (cs : Array Value) : PlacesS cs [] [] := ⟨rfl, fun k o n h => by simp at h⟩
theorem PlacesS.cons {cs : Array Value} {offs : List Nat} {ns : List ByteArray} {o : Nat} {n : ByteArray} (h : PlacesS cs offs ns) (hc : cs[o]? = some (.string n)) (ho : o ≠ 0) : PlacesS cs (o :: offs) (n :: ns) := by
  refine ⟨by simp [h.1], fun k o' n' h1 h2 => ?_⟩
  match k with
  | 0 => simp at h1 h2; subst h1; subst h2; exact ⟨hc, ho⟩
  | k + 1 => exact h.2 k o' n' (by simpa using h1) (by simpa using h2)

theorem nums_places (q : ReqD) : PlacesI q.row (numOffs q.kind) q.nums := by
  unfold numOffs ReqD.nums
  split
  · exact ((((PlacesI.nil _).cons rfl (by decide)).cons rfl (by decide)).cons rfl (by decide))
  · split
    · exact ((((PlacesI.nil _).cons rfl (by decide)).cons rfl (by decide)).cons rfl (by decide))
    · split
      · exact (((PlacesI.nil _).cons rfl (by decide)).cons rfl (by decide))
      · split
        · exact ((PlacesI.nil _).cons rfl (by decide))
        · exact PlacesI.nil _
theorem more_places (q : ReqD) : PlacesI q.row (moreOffs q.kind) q.more := by
  unfold moreOffs ReqD.more
  split
  · exact ((PlacesI.nil _).cons rfl (by decide))
  · split
    · exact ((PlacesI.nil _).cons rfl (by decide))
    · exact PlacesI.nil _
theorem texts_places (q : ReqD) : PlacesS q.row (textOffs q.kind) q.texts := by
  unfold textOffs ReqD.texts
  split
  · exact ((((PlacesS.nil _).cons rfl (by decide)).cons rfl (by decide)).cons rfl (by decide))
  · split
    · exact (((PlacesS.nil _).cons rfl (by decide)).cons rfl (by decide))
    · split
      · exact ((PlacesS.nil _).cons rfl (by decide))
      · exact PlacesS.nil _
theorem nums_short (q : ReqD) : q.nums.length ≤ 3 := by unfold ReqD.nums; split <;> (try split) <;> (try split) <;> (try split) <;> simp
theorem texts_short (q : ReqD) : q.texts.length ≤ 3 := by unfold ReqD.texts; split <;> (try split) <;> (try split) <;> simp
theorem more_short (q : ReqD) : q.more.length ≤ 1 := by unfold ReqD.more; split <;> (try split) <;> simp

/-- Texts that are not too long take few bytes. -/
theorem encTexts_short (ss : List ByteArray) (h : ss.any longB = false) : (encTexts ss).length ≤ 256 * ss.length := by
  induction ss with
  | nil => simp [encTexts]
  | cons s r ih =>
    simp only [List.any_cons, Bool.or_eq_false_iff] at h
    have h1 := ih h.2
    have h2 : s.size ≤ 255 := by have := h.1; simp [longB] at this; omega
    rw [encTexts, List.flatMap_cons, List.length_append, encText_length]
    rw [encTexts] at h1
    rw [List.length_cons]; omega

theorem bytes_fit (q : ReqD) (h : q.long = false) : q.bytes.length < 2000 := by
  unfold ReqD.long at h
  simp only [Bool.or_eq_false_iff] at h
  have hk : q.key.size ≤ 255 := by have := h.1; simp [longB] at this; omega
  have h1 := nums_short q
  have h2 := more_short q
  have h3 := texts_short q
  simp only [ReqD.bytes, List.length_cons, List.length_append, encText_length, encInts_length, List.cons_append]
  by_cases h16 : q.kind = 16
  · have ht : q.texts = [] := by unfold ReqD.texts; simp [h16]
    have hp : q.plan.name.size ≤ 255 := by have := h.2; simp [h16, longB] at this; omega
    rw [ht, if_pos h16, encPlan_length]
    simp only [encTexts, List.flatMap_nil, List.length_nil]
    omega
  · have := encTexts_short q.texts (by have := h.2; rwa [if_neg h16] at this)
    rw [if_neg h16]
    simp only [List.length_nil]
    omega

end Go.Proofs.YtehkgcmdndehaaaDoor

