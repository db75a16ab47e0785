/-
  package pager: sorted.
-/
import Derived.Test.YtjbomdhlfjcgmaaSortL
import Derived.Test.YtjbomdhlfjcgmaaPgA
import Derived.Sort.OwnSortedInts
namespace Go.Proofs.Ytjbomdhlfjcgmaa
set_option linter.unusedSimpArgs false
set_option linter.unusedVariables false
open Go.RowKit

/-! Plain: the numbers that have something, rising. -/

def keysOf {α : Type} (g : Nat → Option α) : Nat → List Nat
  | 0 => []
  | n + 1 => keysOf g n ++ if (g n).isSome then [n] else []
theorem keysOf_mem {α : Type} (g : Nat → Option α) : ∀ (N k : Nat), k ∈ keysOf g N ↔ k < N ∧ (g k).isSome = true
  | 0, k => by simp [keysOf]
  | n + 1, k => by
    rw [keysOf, List.mem_append, keysOf_mem g n]
    by_cases e : k = n
    · subst e
      cases h : (g k).isSome <;> simp [h]
    · have h1 : k < n ↔ k < n + 1 := by omega
      cases h : (g n).isSome <;> simp [e, h1]
theorem keysOf_length {α : Type} (g : Nat → Option α) : ∀ N, (keysOf g N).length = cnt (fun k => (g k).isSome) N
  | 0 => rfl
  | n + 1 => by
    simp only [keysOf, cnt, List.length_append, keysOf_length g n]
    split <;> simp
theorem keysOf_sorted {α : Type} (g : Nat → Option α) : ∀ N, (keysOf g N).Pairwise (· < ·)
  | 0 => List.Pairwise.nil
  | n + 1 => by
    rw [keysOf, List.pairwise_append]
    refine ⟨keysOf_sorted g n, by split <;> simp, fun a ha b hb => ?_⟩
    have := ((keysOf_mem g n a).1 ha).1
    split at hb
    · simp at hb; omega
    · cases hb

theorem sorted_unique : ∀ (a b : List Int), a.Pairwise (· < ·) → b.Pairwise (· < ·) → (∀ x, x ∈ a ↔ x ∈ b) → a = b
  | [], [], _, _, _ => rfl
  | [], y :: b, _, _, h => by have := (h y).2 (by simp); cases this
  | x :: a, [], _, _, h => by have := (h x).1 (by simp); cases this
  | x :: a, y :: b, ha, hb, h => by
    obtain ⟨ha1, ha2⟩ := List.pairwise_cons.1 ha
    obtain ⟨hb1, hb2⟩ := List.pairwise_cons.1 hb
    have hxy : x = y := by
      rcases List.mem_cons.1 ((h x).1 (by simp)) with e | e
      · exact e
      · rcases List.mem_cons.1 ((h y).2 (by simp)) with e2 | e2
        · exact e2.symm
        · have := hb1 x e; have := ha1 y e2; omega
    subst hxy
    rw [sorted_unique a b ha2 hb2 (fun z => ?_)]
    constructor
    · intro hz
      rcases List.mem_cons.1 ((h z).1 (by simp [hz])) with e | e
      · subst e; have := ha1 z hz; omega
      · exact e
    · intro hz
      rcases List.mem_cons.1 ((h z).2 (by simp [hz])) with e | e
      · subst e; have := hb1 z hz; omega
      · exact e

theorem mergeSort_keys {α : Type} (g : Nat → Option α) (N : Nat) (ks : List Int) (hnd : ks.Nodup) (hm : ∀ x : Int, x ∈ ks ↔ ∃ k : Nat, x = k ∧ k < N ∧ (g k).isSome = true) :
    (ks.mergeSort fun x y => decide (x ≤ y)) = (keysOf g N).map fun k : Nat => (k : Int) := by
  have hp := List.mergeSort_perm ks (fun x y => decide (x ≤ y))
  have hs := List.pairwise_mergeSort (le := fun x y : Int => decide (x ≤ y)) (fun a b c h1 h2 => by simp at h1 h2 ⊢; omega) (fun a b => by simp; omega) ks
  have hn : (ks.mergeSort fun x y => decide (x ≤ y)).Nodup := hp.nodup_iff.2 hnd
  refine sorted_unique _ _ ?_ ?_ (fun x => ?_)
  · have := hs.and hn
    refine this.imp (fun {a b} h => ?_)
    have h1 : a ≤ b := by simpa using h.1
    have h2 : a ≠ b := h.2
    omega
  · rw [List.pairwise_map]
    exact (keysOf_sorted g N).imp (fun {a b} h => by omega)
  · rw [hp.mem_iff, hm, List.mem_map]
    constructor
    · rintro ⟨k, rfl, h1, h2⟩
      exact ⟨k, (keysOf_mem g N k).2 ⟨h1, h2⟩, rfl⟩
    · rintro ⟨k, hk, rfl⟩
      obtain ⟨h1, h2⟩ := (keysOf_mem g N k).1 hk
      exact ⟨k, rfl, h1, h2⟩

/-- A row of numbers of the call's own. -/
def IRow (w : World) (base : Nat) (v : Value) (ks : List Int) : Prop := w.ownsRow base 3 1 v ks.length (ks.map (Value.int .i64))
def SortedPost (w : World) (L : List Nat) (e : Ending) (w' : World) : Prop := ∃ v, e = .returned v ∧ IRow w' w.heap.size v (L.map fun k : Nat => (k : Int)) ∧ Below w.heap.size w w'
theorem infoInt : (Try.prog.info? 3).map (fun i => (i.zero, i.size, i.bytes)) = some (some (.int .i64 0), 1, 8) := by kernel_rfl
theorem ints_one (ks : List Int) : ∀ u ∈ ks.map (Value.int .i64), u.oneCell' = true := by
  intro u hu
  obtain ⟨_, _, rfl⟩ := List.mem_map.1 hu
  rfl

theorem IRow.only {w w' : World} {base b : Nat} {v : Value} {ks : List Int} (h : IRow w base v ks) (ho : Only b w w') (hb : b < base) : IRow w' base v ks := by
  refine ⟨h.1, ?_⟩
  rcases h.2 with hn | ⟨g, cap, cur, rfl, hg, hgg, rest⟩
  · exact .inl hn
  · exact .inr ⟨g, cap, cur, rfl, hg, (ho.2.2.2.2 g (by omega)).trans hgg, rest⟩
theorem int_new (w : World) (x : Int) (E : TypeId) : ∀ j u, ([Value.int .i64 x])[j]? = some u → (w.alloc (.cells #[.int .i64 x] E)).cell? ((⟨w.heap.size, 0, none⟩ : Addr).add j) = some u := by
  intro j u hj
  match j, hj with
  | 0, hj =>
    simp at hj
    subst hj
    rw [show (⟨w.heap.size, 0, none⟩ : Addr).add 0 = ⟨w.heap.size, 0, none⟩ from rfl, World.cell?_alloc_at _ _ _ _ rfl]
    rfl
  | _ + 1, hj => simp at hj
theorem IRow.base {w : World} {base base' : Nat} {v : Value} {ks : List Int} (h : IRow w base v ks) (hb : base' ≤ base) : IRow w base' v ks := ownsRow_base h hb

set_option maxHeartbeats 1600000 in
set_option maxRecDepth 100000 in
theorem pg_sorted {w : World} {F : Nat → Prop} {mb N : Nat} {g : Nat → Option (List UInt8)} (h : BMap w F mb g N) (hN : N ≤ 16384) : Calls Try.prog 45 #[.map (some mb)] w (SortedPost w (keysOf g N)) := by
  obtain ⟨i0, hi, hz0, hz1, hz2⟩ := info_parts infoInt
  obtain ⟨f, hm, h1, h2⟩ := h.ex
  have HK : Hid (∀ x, (f x).isSome = true ↔ ∃ k : Nat, x = k ∧ k < N ∧ (g k).isSome = true) := Lib.hid fun x => by
    constructor
    · intro hx
      obtain ⟨v, hv⟩ := Option.isSome_iff_exists.1 hx
      obtain ⟨h0, zs, hg, _⟩ := h1 x v hv
      exact ⟨x.toNat, (Int.toNat_of_nonneg h0).symm, h.lt _ _ hg, by rw [hg]; rfl⟩
    · rintro ⟨k, rfl, _, hk⟩
      obtain ⟨zs, hz⟩ := Option.isSome_iff_exists.1 hk
      exact h2 k zs hz
  have hc := cnt_le (fun k => (g k).isSome) N
  have HM := Lib.hid (And.intro hm (And.intro h.blt (Nat.le_trans hc hN)))
  clear hm h1 h2 h hc
  go_enter Try.func45, Try.ntmps45
  go_wp2_with (at_range; refine wpList_rangeI _ rfl _ 57 rfl 3 22 Try.underlying57 mb _ f rfl HM.out.1 ?_; intro w0 hit hB0 hs0; have X0 := Lib.hid (And.intro hit (And.intro hB0 hs0)); clear hit hB0 hs0)
  go_frame
  go_loopg [3, 4, 7, 8] (cnt (fun k => (g k).isSome) N) (fun G s3 s4 s7 s8 wr => ∃ (ks : List Int) (ct : Nat), ct ≤ G ∧ IterI wr mb w.heap.size f (cnt (fun k => (g k).isSome) N) ks ct ∧ IRow wr (w.heap.size + 1) s3 ks ∧ Below w.heap.size w wr ∧ ks.length + ct ≤ cnt (fun k => (g k).isSome) N)
  case atStart => exact ⟨[], _, Nat.le_refl _, X0.out.1, World.ownsRow_nil _ _ _ _, X0.out.2.1, by simp⟩
  case round =>
    obtain ⟨ks, ct, hct, hit, hrow, hB, hkl⟩ := hrel
    have HR := Lib.hid (And.intro hct (And.intro hit (And.intro hrow (And.intro hB hkl))))
    clear hct hit hrow hB hkl
    have RS : Hid (w.heap.size + 1 ≤ wr.heap.size) := Lib.hid (HR.out.2.1.lt)
    go_wp2_with (first
      | (at_next; refine wpList_nextI _ rfl _ rfl mb w.heap.size _ f ks ct rfl HR.out.2.1 ?_ ?_)
      | fail)
    · intro hall
      have HP : Hid ((ks.mergeSort fun x y => decide (x ≤ y)) = (keysOf g N).map fun k : Nat => (k : Int)) := Lib.hid (mergeSort_keys g N ks HR.out.2.1.nodup (fun x => by
        rw [← HK.out x]
        exact ⟨fun hx => HR.out.2.1.mem hx, hall x⟩))
      clear hall
      rcases HR.out.2.2.1.2 with ⟨hnil, hk0⟩ | ⟨gb, cap, cur, hv, hbase, hb, hq1, hq2, hq3, hq4⟩
      · subst hnil
        have hk : ks = [] := List.eq_nil_of_length_eq_zero (by simpa using hk0)
        subst hk
        go_wp2_with (go_at_call 55; refine (sort_none none 0 wr).mono ?_; rintro e w' ⟨rfl, rfl⟩)
        go_ret
        refine ⟨.slice none 0 0, rfl, ?_, HR.out.2.2.2.1⟩
        rw [← HP.out]
        have e : (([] : List Int).mergeSort fun x y => decide (x ≤ y)) = [] := by simp
        rw [e]
        exact World.ownsRow_nil _ _ _ _
      · have HH := Lib.hid (And.intro (holds_of_blockI (ss := ks) hb (by simpa using hq4)) (And.intro (Array.getElem?_eq_some_iff.1 hb).1 (And.intro hbase (And.intro hb (And.intro hq1 (And.intro hq2 (And.intro hq3 hq4)))))))
        subst hv
        have hkl : ks.length < 4611686018427387904 := by have := HR.out.2.2.2.2; have := HM.out.2.2; omega
        clear hbase hb hq1 hq2 hq3 hq4
        go_wp2_with (go_at_call 55; refine (sort_ints gb 0 cap ks wr HH.out.1 HH.out.2.1 hkl).mono ?_; rintro e w' ⟨rfl, n, os, rfl⟩)
        go_ret
        refine ⟨_, rfl, ?_, ?_⟩
        · rw [← HP.out]
          have ho := ownsRow_sortedI (n := n) (os := os) (ss := ks) (ts := ks.mergeSort fun x y => decide (x ≤ y)) (by simp) HH.out.2.2.1 HH.out.2.2.2.1 HH.out.2.2.2.2.1 HH.out.2.2.2.2.2.1 HH.out.2.2.2.2.2.2.1
          have hl : (ks.mergeSort fun x y => decide (x ≤ y)).length = ks.length := by simp
          unfold IRow
          rw [hl]
          exact ownsRow_base ho (by omega)
        · exact HR.out.2.2.2.1.grown (grownBy_sortedI _) (by have := RS.out; omega) (fun k hk => by cases hk; have := HH.out.2.2.1; omega)
    · intro x v w1 ct1 hx hfx hwx hit1 hlt1 hon1 hen1
      have H1 := Lib.hid (And.intro hit1 (And.intro hlt1 (And.intro hon1 (HR.out.2.2.1.only hon1 (Nat.lt_succ_self _)))))
      have hkl : ks.length + 1 ≤ 16384 := by have := HR.out.2.2.2.2; have := HM.out.2.2; omega
      have hsz : w1.heap.size = wr.heap.size := hon1.2.2.2.1
      have HS := Lib.hid hsz
      clear hx hfx hit1 hlt1 hon1 hsz
      go_wp2_with (at_builtin; refine wpList_append_lies _ rfl (.tmp 11) (.tmp 13) 43 rfl (w.heap.size + 1) 3 i0 (.int .i64 0) 1 8 Try.underlying43 hi hz0 hz1 hz2 rfl (by decide) u3 ks.length (ks.map (Value.int .i64)) rfl (H1.out.2.2.2.alloc _) ⟨w1.heap.size, 0, none⟩ 1 1 [.int .i64 x] rfl rfl (int_new _ _ _) (ints_one [x]) (by decide) (by unfold maxLen; omega) (by omega) (by have := RS.out; have := HS.out; simp; omega) (w1.heap.size + 1) (by simp) ?_)
      intro g' cap w2 hown2 hgrow hg hlt
      have F : Hid (IterI w2 mb w.heap.size f (cnt (fun k => (g k).isSome) N) (ks ++ [x]) ct1 ∧ IRow w2 (w.heap.size + 1) (.slice (some ⟨g', 0, none⟩) (ks.length + 1) cap) (ks ++ [x]) ∧ Below w.heap.size w w2) := Lib.hid (by
        have hb1 := H1.out.1.map.lt
        have hob : ∀ k, k < w1.heap.size → k < w.heap.size + 1 → w2.heap[k]? = w1.heap[k]? := fun k hk hk2 => (hgrow.block k (by simp; omega) (fun e => by
          have := (H1.out.2.2.2.lt k e.symm).1; omega)).trans ((MapKept.heap_alloc w1 _).2 k hk)
        refine ⟨H1.out.1.on (hob mb hb1 (by have := HM.out.2.1; omega)) (hob w.heap.size H1.out.1.lt (by omega)), ?_, ?_⟩
        · unfold IRow
          simp only [List.length_append, List.length_singleton, List.map_append, List.map_singleton]
          exact hown2
        · have hB1 : Below w.heap.size w w1 := ⟨H1.out.2.2.1.1.trans HR.out.2.2.2.1.os, H1.out.2.2.1.2.1.trans HR.out.2.2.2.1.tape, H1.out.2.2.1.2.2.1.trans HR.out.2.2.2.1.output, by have := RS.out; have := HS.out; omega, fun k hk => (H1.out.2.2.1.2.2.2.2 k (by omega)).trans (HR.out.2.2.2.1.block k hk)⟩
          exact (hB1.alloc (by have := RS.out; have := HS.out; omega) _).grown hgrow (by have := RS.out; have := HS.out; simp; omega) (fun k hk => by have := (H1.out.2.2.2.lt k hk).1; omega))
      clear hown2 hgrow hg hlt
      go_wp2
      go_roundg ct1
      case measure => have := H1.out.2.1; have := HR.out.1; omega
      case rel => exact ⟨ks ++ [x], ct1, Nat.le_refl _, F.out.1, F.out.2.1, F.out.2.2, by have := H1.out.2.1; have := HR.out.2.2.2.2; simp; omega⟩
end Go.Proofs.Ytjbomdhlfjcgmaa
