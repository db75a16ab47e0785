/-
  package pager, plain: what a commit's writes come to.
-/
import Derived.Test.YtjbomdhlfjcgmaaPgP
namespace Go.Proofs.Ytjbomdhlfjcgmaa
set_option linter.unusedSimpArgs false
set_option linter.unusedVariables false

theorem DiskWf.done {D : DiskS} (h : DiskWf D) {n : Nat} {b : List UInt8} (hn : n < D.blocks) (hb : b.length = 512) : DiskWf (D.done n b) := by
  have h1 := h.left
  have h2 := h.left'
  refine ⟨h.lo, h.hi, fun k c hc => ?_, ?_, ?_⟩
  · have hc : updN D.put n (some b) k = some c := hc
    by_cases e : k = n
    · subst e
      rw [updN_same] at hc
      cases hc
      exact ⟨hn, hb⟩
    · rw [updN_other _ _ _ e] at hc
      exact h.len k c hc
  · show -1 ≤ (if 0 < D.left then D.left - 1 else D.left)
    split <;> omega
  · show (if 0 < D.left then D.left - 1 else D.left) < 9223372036854775808
    split <;> omega
theorem DiskWf.kill {D : DiskS} (h : DiskWf D) : DiskWf { D with dead := true } := ⟨h.lo, h.hi, h.len, h.left, h.left'⟩
theorem DiskS.write_alive {D : DiskS} (hd : D.dead = false) {n : Nat} {b : List UInt8} (hn : n < D.blocks) (hb : b.length = 512) : D.write n b = if D.left = 0 then ({ D with dead := true }, 12) else (D.done n b, 0) := by
  unfold DiskS.write
  rw [if_neg (by rw [hd]; decide), if_neg (by omega)]
  simp

/-- Writes that all could be done: all are, or the power goes ahead of one. -/
theorem DiskS.all_spec : ∀ (L : List (Nat × List UInt8)) (D : DiskS), DiskWf D → D.dead = false → (∀ x ∈ L, x.1 < D.blocks ∧ x.2.length = 512) →
    ((D.all L).2 = 0 ∧ (D.all L).1.dead = false ∧ (D.all L).1.writes = D.writes + L.length ∧ DiskWf (D.all L).1 ∧ (D.all L).1.blocks = D.blocks ∧ (D.left = -1 → (D.all L).1.left = -1) ∧
      (∀ k, (∀ x ∈ L, x.1 ≠ k) → (D.all L).1.block k = D.block k) ∧ ((∀ x ∈ L, ∀ y ∈ L, x.1 = y.1 → x = y) → ∀ x ∈ L, (D.all L).1.block x.1 = x.2)) ∨
    ((D.all L).2 = 12 ∧ (D.all L).1.dead = true ∧ DiskWf (D.all L).1 ∧ (D.all L).1.blocks = D.blocks ∧ D.left ≠ -1 ∧ ∀ k, (∀ x ∈ L.dropLast, x.1 ≠ k) → (D.all L).1.block k = D.block k)
  | [], D, hw, hd, _ => .inl ⟨rfl, hd, rfl, hw, rfl, fun h => h, fun _ _ => rfl, fun _ x hx => (by cases hx)⟩
  | x :: r, D, hw, hd, hL => by
    obtain ⟨hx1, hx2⟩ := hL x (List.mem_cons_self ..)
    have hwr := DiskS.write_alive hd hx1 hx2
    by_cases hl : D.left = 0
    · rw [if_pos hl] at hwr
      have e : D.all (x :: r) = ({ D with dead := true }, 12) := by simp only [DiskS.all, hwr]; rfl
      rw [e]
      exact .inr ⟨rfl, rfl, hw.kill, rfl, by omega, fun k _ => rfl⟩
    · rw [if_neg hl] at hwr
      have e : D.all (x :: r) = (D.done x.1 x.2).all r := by simp only [DiskS.all, hwr]; rfl
      rw [e]
      have hlm : D.left = -1 → (D.done x.1 x.2).left = -1 := fun h => by
        show (if 0 < D.left then D.left - 1 else D.left) = -1
        rw [if_neg (by omega)]; exact h
      rcases DiskS.all_spec r (D.done x.1 x.2) (hw.done hx1 hx2) hd (fun y hy => hL y (List.mem_cons_of_mem _ hy)) with ⟨h1, h2, h3, h4, h5, h6, h7, h8⟩ | ⟨h1, h2, h3, h4, h5, h6⟩
      · refine .inl ⟨h1, h2, ?_, h4, h5, fun h => h6 (hlm h), ?_, ?_⟩
        · rw [h3, List.length_cons]
          show D.writes + 1 + r.length = _
          omega
        · intro k hk
          rw [h7 k (fun y hy => hk y (List.mem_cons_of_mem _ hy)), DiskS.block_done, if_neg (fun e => hk x (List.mem_cons_self ..) e.symm)]
        · intro hf y hy
          have hr := h8 (fun a ha b hb => hf a (List.mem_cons_of_mem _ ha) b (List.mem_cons_of_mem _ hb))
          by_cases hz : ∃ z ∈ r, z.1 = y.1
          · obtain ⟨z, hz, he⟩ := hz
            have : z = y := hf z (List.mem_cons_of_mem _ hz) y hy he
            subst this
            exact hr z hz
          · have hyx : y = x := by
              rcases List.mem_cons.1 hy with e | e
              · exact e
              · exact absurd ⟨y, e, rfl⟩ hz
            subst hyx
            rw [h7 y.1 (fun z hz' e => hz ⟨z, hz', e⟩), DiskS.block_done, if_pos rfl]
      · refine .inr ⟨h1, h2, h3, h4, ?_, ?_⟩
        · intro h; exact h5 (hlm h)
        · intro k hk
          cases r with
          | nil => cases h1
          | cons y s =>
            rw [h6 k (fun z hz => hk z (by rw [List.dropLast_cons_of_ne_nil (by simp)]; exact List.mem_cons_of_mem _ hz)), DiskS.block_done, if_neg (fun e => hk x (by rw [List.dropLast_cons_of_ne_nil (by simp)]; exact List.mem_cons_self ..) e.symm)]

/-- A pager's state over what is committed. -/
structure PgInv (D : DiskS) (S : PgS) (C : Comm) : Prop where
  ok : DiskOk D C
  wf : PgWf S
  bl : S.blocks = D.blocks
  seq : S.seq = C.seq
  root : S.root = C.root
  has : ∀ n, S.taken n = C.has n

/-- What a commit makes. -/
def commC (S : PgS) (C : Comm) (root : List UInt8) : Comm := ⟨C.seq + 1, root, fun n => match S.fresh n with | some zs => some zs | none => if S.freed n = true then none else C.pages n⟩
theorem commC_has {D : DiskS} {S : PgS} {C : Comm} (h : PgInv D S C) (root : List UInt8) (n : Nat) : (commC S C root).has n = tkOf S n := by
  unfold Comm.has commC tkOf
  cases hf : S.fresh n with
  | some zs =>
    have h3 := (h.wf.fresh n zs hf).2.2.1
    cases hq : S.freed n with
    | false => simp [hf]
    | true => rw [h.wf.freed n hq] at h3; cases h3
  | none =>
    cases hq : S.freed n with
    | false => simp [hf, hq, h.has n, Comm.has]
    | true => simp [hf, hq]

attribute [local irreducible] mapB slotB pageB padB bitsB zerosB DiskS.all DiskS.block keysOf slotSeq
theorem layA_mem {S : PgS} {x : Nat × List UInt8} (h : x ∈ layA S) : ∃ zs, S.fresh x.1 = some zs ∧ x.2 = pageB zs := by
  unfold layA at h
  obtain ⟨n, hn, rfl⟩ := List.mem_map.1 h
  obtain ⟨zs, hz⟩ := Option.isSome_iff_exists.1 ((keysOf_mem _ _ _).1 hn).2
  exact ⟨zs, hz, by simp [hz]⟩
theorem layA_has {S : PgS} {n : Nat} {zs : List UInt8} (h : S.fresh n = some zs) (hn : n < S.blocks) : (n, pageB zs) ∈ layA S := by
  unfold layA
  refine List.mem_map.2 ⟨n, (keysOf_mem _ _ _).2 ⟨hn, by rw [h]; rfl⟩, by simp [h]⟩
theorem layB_mem {S : PgS} {tk : Nat → Bool} {x : Nat × List UInt8} (h : x ∈ layB S tk) : ∃ i, i < mapsN S.blocks ∧ x = (2 + (S.seq + 1) % 2 * mapsN S.blocks + i, mapB tk i) := by
  unfold layB at h
  obtain ⟨i, hi, rfl⟩ := List.mem_map.1 h
  exact ⟨i, List.mem_range.1 hi, rfl⟩
theorem layB_has {S : PgS} {tk : Nat → Bool} {i : Nat} (h : i < mapsN S.blocks) : (2 + (S.seq + 1) % 2 * mapsN S.blocks + i, mapB tk i) ∈ layB S tk := by
  unfold layB
  exact List.mem_map.2 ⟨i, List.mem_range.2 h, rfl⟩
theorem layL_length (S : PgS) (tk : Nat → Bool) (root : List UInt8) : (layL S tk root).length = cnt (fun k => (S.fresh k).isSome) S.blocks + mapsN S.blocks + 1 := by
  unfold layL layA layB layC
  simp [keysOf_length, Nat.add_assoc]
theorem layL_mem {S : PgS} {tk : Nat → Bool} {root : List UInt8} {x : Nat × List UInt8} (h : x ∈ layL S tk root) : x ∈ layA S ∨ x ∈ layB S tk ∨ x = ((S.seq + 1) % 2, slotB (S.seq + 1) root) := by
  unfold layL layC at h
  rcases List.mem_append.1 h with h | h
  · exact (List.mem_append.1 h).imp id .inl
  · exact .inr (.inr (by simpa using h))
theorem layL_last (S : PgS) (tk : Nat → Bool) (root : List UInt8) : (layL S tk root).dropLast = layA S ++ layB S tk := by
  unfold layL layC
  simp
theorem parity_lt (q M : Nat) : q % 2 * M + M ≤ 2 * M := by
  have : q % 2 * M ≤ 1 * M := Nat.mul_le_mul_right _ (by omega)
  omega
theorem parity_ne (q M i j : Nat) (hi : i < M) (hj : j < M) : q % 2 * M + i ≠ (q + 1) % 2 * M + j := by
  rcases Nat.mod_two_eq_zero_or_one q with h | h
  · rw [h, show (q + 1) % 2 = 1 by omega]; omega
  · rw [h, show (q + 1) % 2 = 0 by omega]; omega
theorem firstN_eq (n : Nat) : firstN n = 2 + 2 * mapsN n := rfl
/-- The writes can be done. -/
theorem layL_fit {D : DiskS} {S : PgS} {C : Comm} (h : PgInv D S C) (tk : Nat → Bool) (root : List UInt8) (hr : root.length ≤ 64) : ∀ x ∈ layL S tk root, x.1 < D.blocks ∧ x.2.length = 512 := by
  have hb := h.bl
  have hlo := h.wf.lo
  have hm := maps_le h.wf.hi
  intro x hx
  rcases layL_mem hx with hx | hx | rfl
  · obtain ⟨zs, h1, h2⟩ := layA_mem hx
    obtain ⟨_, h4, _, h5⟩ := h.wf.fresh _ _ h1
    exact ⟨by omega, by rw [h2]; exact pageB_length h5⟩
  · obtain ⟨i, h1, rfl⟩ := layB_mem hx
    have := parity_lt (S.seq + 1) (mapsN S.blocks)
    exact ⟨by show 2 + (S.seq + 1) % 2 * mapsN S.blocks + i < _; omega, by show (mapB tk i).length = 512; rw [mapB_length]⟩
  · exact ⟨by show (S.seq + 1) % 2 < _; omega, slotB_length hr⟩
theorem layL_func {D : DiskS} {S : PgS} {C : Comm} (h : PgInv D S C) (tk : Nat → Bool) (root : List UInt8) : ∀ x ∈ layL S tk root, ∀ y ∈ layL S tk root, x.1 = y.1 → x = y := by
  have hp := parity_lt (S.seq + 1) (mapsN S.blocks)
  have hA : ∀ x ∈ layA S, firstN S.blocks ≤ x.1 := fun x hx => by obtain ⟨zs, h1, _⟩ := layA_mem hx; exact (h.wf.fresh _ _ h1).1
  have hB : ∀ x ∈ layB S tk, 2 ≤ x.1 ∧ x.1 < firstN S.blocks := fun x hx => by obtain ⟨i, h1, rfl⟩ := layB_mem hx; rw [firstN_eq]; exact ⟨(by show 2 ≤ 2 + (S.seq + 1) % 2 * mapsN S.blocks + i; omega), (by show 2 + (S.seq + 1) % 2 * mapsN S.blocks + i < _; omega)⟩
  have hf : 2 ≤ firstN S.blocks := by rw [firstN_eq]; omega
  intro x hx y hy e
  rcases layL_mem hx with hx | hx | hx <;> rcases layL_mem hy with hy | hy | hy
  · obtain ⟨z1, a1, a2⟩ := layA_mem hx
    obtain ⟨z2, b1, b2⟩ := layA_mem hy
    rw [e, b1] at a1
    cases a1
    exact Prod.ext e (a2.trans b2.symm)
  · have := hA x hx; have := (hB y hy).2; omega
  · have := hA x hx; rw [hy] at e; have e2 : x.1 = (S.seq + 1) % 2 := e; omega
  · have := hA y hy; have := (hB x hx).2; omega
  · obtain ⟨i, _, hx⟩ := layB_mem hx
    obtain ⟨j, _, hy⟩ := layB_mem hy
    rw [hx, hy] at e
    have e2 : 2 + (S.seq + 1) % 2 * mapsN S.blocks + i = 2 + (S.seq + 1) % 2 * mapsN S.blocks + j := e
    have : i = j := by omega
    rw [hx, hy, this]
  · have := (hB x hx).1; rw [hy] at e; have e2 : x.1 = (S.seq + 1) % 2 := e; omega
  · have := hA y hy; rw [hx] at e; have e2 : (S.seq + 1) % 2 = y.1 := e; omega
  · have := (hB y hy).1; rw [hx] at e; have e2 : (S.seq + 1) % 2 = y.1 := e; omega
  · rw [hx, hy]

theorem DiskOk.first {D : DiskS} {C : Comm} (h : DiskOk D C) {n : Nat} (hn : C.has n = true) : firstN D.blocks ≤ n ∧ n < D.blocks := by
  obtain ⟨b, hb⟩ := Option.isSome_iff_exists.1 hn
  have := h.pages n b hb
  exact ⟨this.1, this.2.1⟩
/-- Only what a commit reads of a disk counts. -/
theorem DiskOk.same {D D' : DiskS} {C : Comm} (h : DiskOk D C) (wf : DiskWf D') (hb : D'.blocks = D.blocks) (hk : ∀ k, k < 2 ∨ (∃ i, i < mapsN D.blocks ∧ k = 2 + C.seq % 2 * mapsN D.blocks + i) ∨ C.has k = true → D'.block k = D.block k) : DiskOk D' C := by
  refine ⟨wf, by rw [hb]; exact h.lo, h.seq, h.root, fun n b hn => ?_, h.zero, fun h0 => ?_, fun h0 i hi => ?_, fun s hs hne => ?_⟩
  · rw [hb, hk n (.inr (.inr (by unfold Comm.has; rw [hn]; rfl)))]
    exact h.pages n b hn
  · rw [hk _ (.inl (by omega))]; exact h.slot h0
  · rw [hb] at hi ⊢
    rw [hk _ (.inr (.inl ⟨i, hi, rfl⟩))]; exact h.maps h0 i hi
  · rw [hk _ (.inl hs)]; exact h.other s hs hne
theorem SlotLow.mono {b : List UInt8} {m n : Nat} (h : SlotLow b m) (hn : m ≤ n) : SlotLow b n := ⟨h.1, h.2.imp id (fun e => by omega)⟩

theorem PgInv.keep {D D' : DiskS} {S : PgS} {C : Comm} (h : PgInv D S C) (ok : DiskOk D' C) (hb : D'.blocks = D.blocks) : PgInv D' S C := ⟨ok, h.wf, by rw [hb]; exact h.bl, h.seq, h.root, h.has⟩

/-- A commit's writes: all of them are done, and the next one is committed; or the power goes, and nothing is. -/
theorem commit_all {D : DiskS} {S : PgS} {C : Comm} (h : PgInv D S C) (hd : D.dead = false) (root : List UInt8) (hr : root.length ≤ 64) (hs : S.seq + 1 < 1000000000000000000) :
    ((D.all (layL S (tkOf S) root)).2 = 0 ∧ (D.all (layL S (tkOf S) root)).1.dead = false ∧ (D.all (layL S (tkOf S) root)).1.writes = D.writes + (layL S (tkOf S) root).length ∧ (D.left = -1 → (D.all (layL S (tkOf S) root)).1.left = -1) ∧ PgInv (D.all (layL S (tkOf S) root)).1 (S.done root) (commC S C root)) ∨
    ((D.all (layL S (tkOf S) root)).2 = 12 ∧ (D.all (layL S (tkOf S) root)).1.dead = true ∧ D.left ≠ -1 ∧ PgInv (D.all (layL S (tkOf S) root)).1 S C) := by
  have hbl := h.bl
  have hsq := h.seq
  have hfe : firstN D.blocks = 2 + 2 * mapsN D.blocks := rfl
  have hlo := h.ok.lo
  have hmm := maps_le h.ok.wf.hi
  have hA : ∀ x ∈ layA S, firstN D.blocks ≤ x.1 ∧ C.has x.1 = false := fun x hx => by
    obtain ⟨zs, h1, _⟩ := layA_mem hx
    obtain ⟨h2, _, h3, _⟩ := h.wf.fresh _ _ h1
    rw [← hbl]
    exact ⟨h2, by rw [← h.has]; exact h3⟩
  have hB : ∀ x ∈ layB S (tkOf S), ∃ i, i < mapsN D.blocks ∧ x.1 = 2 + (C.seq + 1) % 2 * mapsN D.blocks + i := fun x hx => by
    obtain ⟨i, h1, e⟩ := layB_mem hx
    rw [hbl] at h1
    exact ⟨i, h1, by rw [e, hbl, hsq]⟩
  have hpl := parity_lt (C.seq + 1) (mapsN D.blocks)
  have hpl2 := parity_lt C.seq (mapsN D.blocks)
  rcases DiskS.all_spec (layL S (tkOf S) root) D h.ok.wf hd (layL_fit h _ root hr) with ⟨h1, h2, h3, h4, h5, h6, h7, h8⟩ | ⟨h1, h2, h3, h4, h5, h6⟩
  · have h9 := h8 (layL_func h _ root)
    have hold : ∀ k, k ≠ (C.seq + 1) % 2 → (∀ i, i < mapsN D.blocks → k ≠ 2 + (C.seq + 1) % 2 * mapsN D.blocks + i) → (firstN D.blocks ≤ k → C.has k = true) → (D.all (layL S (tkOf S) root)).1.block k = D.block k := fun k n1 n2 n3 => h7 k (fun x hx e => by
      rcases layL_mem hx with hx | hx | hx
      · have := hA x hx
        rw [e] at this
        rw [n3 this.1] at this
        cases this.2
      · obtain ⟨i, hi, e2⟩ := hB x hx
        exact n2 i hi (by omega)
      · rw [hx] at e
        have e2 : (S.seq + 1) % 2 = k := e
        omega)
    have hmapsb : ∀ i, i < mapsN D.blocks → (D.all (layL S (tkOf S) root)).1.block (2 + (C.seq + 1) % 2 * mapsN D.blocks + i) = mapB (tkOf S) i := fun i hi => by
      have hm : (2 + (S.seq + 1) % 2 * mapsN S.blocks + i, mapB (tkOf S) i) ∈ layL S (tkOf S) root := by
        unfold layL
        exact List.mem_append_left _ (List.mem_append_right _ (layB_has (by rw [hbl]; exact hi)))
      have := h9 _ hm
      rw [hbl, hsq] at this
      exact this
    have hslot : (D.all (layL S (tkOf S) root)).1.block ((C.seq + 1) % 2) = slotB (C.seq + 1) root := by
      have hm : ((S.seq + 1) % 2, slotB (S.seq + 1) root) ∈ layL S (tkOf S) root := by
        unfold layL layC
        exact List.mem_append_right _ (List.mem_singleton.2 rfl)
      have := h9 _ hm
      rw [hsq] at this
      exact this
    have hhas := commC_has h root
    refine .inl ⟨h1, h2, h3, h6, ⟨⟨h4, by rw [h5]; exact hlo, by show C.seq + 1 < _; omega, hr, ?_, fun h0 => ?_, fun _ => hslot, fun _ i hi => ?_, ?_⟩, ⟨h.wf.lo, h.wf.hi, ?_, ?_, ?_, rfl, ?_, hr, hs⟩, ?_, ?_, rfl, fun n => (hhas n).symm⟩⟩
    · intro n b hn
      rw [h5]
      have hn' : (match S.fresh n with | some zs => some zs | none => if S.freed n = true then none else C.pages n) = some b := hn
      cases hf : S.fresh n with
      | some zs =>
        rw [hf] at hn'
        cases hn'
        obtain ⟨g1, g2, g3, g4⟩ := h.wf.fresh n b hf
        have hm : (n, pageB b) ∈ layL S (tkOf S) root := by
          unfold layL
          exact List.mem_append_left _ (List.mem_append_left _ (layA_has hf g2))
        exact ⟨by rw [← hbl]; exact g1, by rw [← hbl]; exact g2, g4, h9 _ hm⟩
      | none =>
        rw [hf] at hn'
        have hp : C.pages n = some b := by
          cases hq : S.freed n with
          | true => rw [hq] at hn'; simp at hn'
          | false => rw [hq] at hn'; simpa using hn'
        obtain ⟨g1, g2, g3, g4⟩ := h.ok.pages n b hp
        refine ⟨g1, g2, g3, ?_⟩
        rw [hold n (by omega) (fun i hi => by omega) (fun _ => by unfold Comm.has; rw [hp]; rfl)]
        exact g4
    · have : C.seq + 1 = 0 := h0
      omega
    · rw [h5] at hi ⊢
      have e : (commC S C root).has = tkOf S := funext hhas
      rw [e]
      exact hmapsb i hi
    · intro s hs2 hne
      have hne2 : s ≠ (C.seq + 1) % 2 := hne (Nat.succ_pos _)
      rw [hold s hne2 (fun i hi => by omega) (fun h => by omega)]
      show SlotLow _ (C.seq + 1)
      rcases Nat.eq_zero_or_pos C.seq with h0 | h0
      · exact (h.ok.other s hs2 (fun h => by omega)).mono (by omega)
      · by_cases e : s = C.seq % 2
        · rw [e, h.ok.slot h0]
          have := h.ok.seq
          have e2 := slotB_seq C.seq C.root this
          unfold SlotLow
          rw [e2]
          exact And.intro (Nat.lt_trans this (by decide)) (Or.inr (Nat.lt_succ_self _))
        · exact (h.ok.other s hs2 (fun _ => e)).mono (by omega)
    · intro n hn
      have hn' : tkOf S n = true := hn
      unfold tkOf at hn'
      show firstN S.blocks ≤ n ∧ n < S.blocks
      cases ht : S.taken n with
      | true => exact h.wf.taken n ht
      | false =>
        rw [ht] at hn'
        cases hf : S.fresh n with
        | none => rw [hf] at hn'; simp at hn'
        | some zs => have := h.wf.fresh n zs hf; exact ⟨this.1, this.2.1⟩
    · intro n zs hn; cases hn
    · intro n hn; cases hn
    · show firstN S.blocks ≤ firstN S.blocks ∧ firstN S.blocks < S.blocks
      rw [hbl]
      omega
    · show S.blocks = _
      rw [h5]; exact hbl
    · show S.seq + 1 = C.seq + 1
      rw [hsq]
  · refine .inr ⟨h1, h2, h5, h.keep (h.ok.same h3 h4 ?_) h4⟩
    intro k hk
    apply h6
    rw [layL_last]
    intro x hx e
    rcases List.mem_append.1 hx with hx | hx
    · have h7 := hA x hx
      rw [e] at h7
      rcases hk with hk | ⟨i, hi, hk⟩ | hk
      · omega
      · omega
      · rw [hk] at h7; cases h7.2
    · obtain ⟨j, hj, e2⟩ := hB x hx
      rcases hk with hk | ⟨i, hi, hk⟩ | hk
      · omega
      · exact parity_ne C.seq (mapsN D.blocks) i j hi hj (by omega)
      · have := (h.ok.first hk).1
        omega
end Go.Proofs.Ytjbomdhlfjcgmaa
