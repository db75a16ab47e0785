/-
  Plain facts of a request's row: which cells its numbers and texts are.
-/
import Derived.Test.YtehkgcmdndehaaaDoorReqD
namespace Go.Proofs.YtehkgcmdndehaaaDoor
set_option linter.unusedSimpArgs false
set_option linter.unusedVariables false
open Go.RowKit

/-- A list of places and what stands there. -/
def PlacesI (cs : Array Value) (offs : List Nat) (ns : List Int) : Prop :=
  offs.length = ns.length ∧ ∀ (k o : Nat) (n : Int), offs[k]? = some o → ns[k]? = some n → cs[o]? = some (.int .i64 n) ∧ o ≠ 0
def PlacesS (cs : Array Value) (offs : List Nat) (ss : List ByteArray) : Prop :=
  offs.length = ss.length ∧ ∀ (k o : Nat) (s : ByteArray), offs[k]? = some o → ss[k]? = some s → cs[o]? = some (.string s) ∧ o ≠ 0

theorem PlacesI.nil (cs : Array Value) : PlacesI cs [] [] := ⟨rfl, fun k o n h => by simp at h⟩
theorem PlacesI.cons {cs : Array Value} {offs : List Nat} {ns : List Int} {o : Nat} {n : Int} (h : PlacesI cs offs ns) (hc : cs[o]? = some (.int .i64 n)) (ho : o ≠ 0) : PlacesI cs (o :: offs) (n :: ns) := by
  refine ⟨by simp [h.1], fun k o' n' h1 h2 => ?_⟩
  match k with
  | 0 => simp at h1 h2; subst h1; subst h2; exact ⟨hc, ho⟩
  | k + 1 => exact h.2 k o' n' (by simpa using h1) (by simpa using h2)
theorem PlacesS.nil (cs : Array Value) : PlacesS cs [] [] := ⟨rfl, fun k o n h => by simp at h⟩
theorem PlacesS.cons {cs : Array Value} {offs : List Nat} {ns : List ByteArray} {o : Nat} {n : ByteArray} (h : PlacesS cs offs ns) (hc : cs[o]? = some (.string n)) (ho : o ≠ 0) : PlacesS cs (o :: offs) (n :: ns) := by
  refine ⟨by simp [h.1], fun k o' n' h1 h2 => ?_⟩
  match k with
  | 0 => simp at h1 h2; subst h1; subst h2; exact ⟨hc, ho⟩
  | k + 1 => exact h.2 k o' n' (by simpa using h1) (by simpa using h2)

theorem nums_places (q : ReqD) : PlacesI q.row (numOffs q.kind) q.nums := by
  unfold numOffs ReqD.nums
  split
  · exact ((((PlacesI.nil _).cons rfl (by decide)).cons rfl (by decide)).cons rfl (by decide))
  · split
    · exact ((((PlacesI.nil _).cons rfl (by decide)).cons rfl (by decide)).cons rfl (by decide))
    · split
      · exact (((PlacesI.nil _).cons rfl (by decide)).cons rfl (by decide))
      · split
        · exact ((PlacesI.nil _).cons rfl (by decide))
        · exact PlacesI.nil _
theorem more_places (q : ReqD) : PlacesI q.row (moreOffs q.kind) q.more := by
  unfold moreOffs ReqD.more
  split
  · exact ((PlacesI.nil _).cons rfl (by decide))
  · split
    · exact ((PlacesI.nil _).cons rfl (by decide))
    · exact PlacesI.nil _
theorem texts_places (q : ReqD) : PlacesS q.row (textOffs q.kind) q.texts := by
  unfold textOffs ReqD.texts
  split
  · exact ((((PlacesS.nil _).cons rfl (by decide)).cons rfl (by decide)).cons rfl (by decide))
  · split
    · exact (((PlacesS.nil _).cons rfl (by decide)).cons rfl (by decide))
    · split
      · exact ((PlacesS.nil _).cons rfl (by decide))
      · exact PlacesS.nil _
theorem nums_short (q : ReqD) : q.nums.length ≤ 3 := by unfold ReqD.nums; split <;> (try split) <;> (try split) <;> (try split) <;> simp
theorem texts_short (q : ReqD) : q.texts.length ≤ 3 := by unfold ReqD.texts; split <;> (try split) <;> (try split) <;> simp
theorem more_short (q : ReqD) : q.more.length ≤ 1 := by unfold ReqD.more; split <;> (try split) <;> simp

/-- Texts that are not too long take few bytes. -/
theorem encTexts_short (ss : List ByteArray) (h : ss.any longB = false) : (encTexts ss).length ≤ 256 * ss.length := by
  induction ss with
  | nil => simp [encTexts]
  | cons s r ih =>
    simp only [List.any_cons, Bool.or_eq_false_iff] at h
    have h1 := ih h.2
    have h2 : s.size ≤ 255 := by have := h.1; simp [longB] at this; omega
    rw [encTexts, List.flatMap_cons, List.length_append, encText_length]
    rw [encTexts] at h1
    rw [List.length_cons]; omega

theorem bytes_fit (q : ReqD) (h : q.long = false) : q.bytes.length < 2000 := by
  unfold ReqD.long at h
  simp only [Bool.or_eq_false_iff] at h
  have hk : q.key.size ≤ 255 := by have := h.1; simp [longB] at this; omega
  have h1 := nums_short q
  have h2 := more_short q
  have h3 := texts_short q
  simp only [ReqD.bytes, List.length_cons, List.length_append, encText_length, encInts_length, List.cons_append]
  by_cases h16 : q.kind = 16
  · have ht : q.texts = [] := by unfold ReqD.texts; simp [h16]
    have hp : q.plan.name.size ≤ 255 := by have := h.2; simp [h16, longB] at this; omega
    rw [ht, if_pos h16, encPlan_length]
    simp only [encTexts, List.flatMap_nil, List.length_nil]
    omega
  · have := encTexts_short q.texts (by have := h.2; rwa [if_neg h16] at this)
    rw [if_neg h16]
    simp only [List.length_nil]
    omega

end Go.Proofs.YtehkgcmdndehaaaDoor
