/-
  package pager: what a commit writes: words for the walk of lay.
-/
import Derived.Test.YtjbomdhlfjcgmaaPgS
import Derived.Laws.AppendOwnNone
namespace Go.Proofs.Ytjbomdhlfjcgmaa
set_option linter.unusedSimpArgs false
set_option linter.unusedVariables false
open Go.RowKit

section
variable {w : World}
/-- 'append(v, x...)': v owns its bytes, x reads as some. -/
theorem run_append_reads (base : Nat) (ty : TypeId) (v x : Value) (xs zs : List UInt8) (hown : Row w base v xs) (hx : Reads w x zs) (hl : xs.length + zs.length ≤ 1000000) (hbase : base ≤ w.heap.size) :
    ∃ v' w', (Builtin.append_ #[22, 22] ty #[v, x]).run Try.prog w = .ok v' w' ∧ Row w' base v' (xs ++ zs) ∧ w.grownBy w' v.ownBlock := by
  obtain ⟨i0, hi, hz0, hz1, hz2⟩ := info_parts infoU8
  rcases hx with ⟨rfl, rfl⟩ | ⟨b, off, cap, rfl, hc, hb, hcell⟩
  · refine ⟨v, w, run_append_owned_none (P := Try.prog) (w := w) base 22 ty 5 i0 1 Try.underlying22 hi v _ _ hown, by simpa using hown, ⟨rfl, rfl, rfl, Nat.le_refl _, fun _ _ _ => rfl⟩⟩
  · obtain ⟨v', w', hr, h1, h2, _⟩ := run_append_own (P := Try.prog) w base 22 ty 5 i0 (.int .u8 0) 1 1 Try.underlying22 hi hz0 hz1 hz2 rfl (by decide) v xs.length (bcells xs) hown ⟨b, off, none⟩ zs.length cap (bcells zs) (by simp [bcells])
      (fun j u hj => by
        have hjn : j < zs.length := by
          have := (List.getElem?_eq_some_iff.1 hj).1
          simpa [bcells] using this
        rw [Addr.add_lit]
        have e : (bcells zs)[j]? = some (.int .u8 (zs[j].toNat : Int)) := by simp [bcells, hjn]
        rw [e] at hj
        cases hj
        exact hcell j zs[j] (List.getElem?_eq_getElem hjn)) (bcells_oneCell _) (by unfold maxLen; omega) (by omega) hbase
    refine ⟨v', w', hr, ?_, h2⟩
    unfold Row
    rw [bcells_append, List.length_append]
    exact h1
theorem wpList_append_reads {ops : Array Oper} {rest : List Oper} {o : Oper} {a : Act} {Q : Exit → Act → World → Prop} (hgd : o.guard = none) (s x : Operand)
    (ho : o.op = .call { callee := .builtin .append, args := #[s, x], argTypes := #[22, 22] }) (base : Nat) (v u : Value) (xs zs : List UInt8) (hs : a.eval s = v) (hx : a.eval x = u) (hown : Row w base v xs) (hr : Reads w u zs)
    (hl : xs.length + zs.length ≤ 1000000) (hbase : base ≤ w.heap.size) (h : ∀ v' w', Row w' base v' (xs ++ zs) → w.grownBy w' v.ownBlock → wpList Try.prog ops Q rest (a.put o.dst v') w') : wpList Try.prog ops Q (o :: rest) a w := by
  refine wpList_plain hgd fun K hK => ?_
  obtain ⟨v', w', hrun, h1, h2⟩ := run_append_reads (w := w) base o.type v u xs zs hown hr hl hbase
  unfold Oper.wp execOp
  simp only [ho, resolve, invoke, builtin, Sem.run_bind, Sem.run_pure, Result.andThen_ok, List.map_toArray, List.map_cons, List.map_nil, hs, hx, hrun]
  exact hK _ _ (h v' w' h1 h2)
end

theorem DiskS.all_append (D : DiskS) : ∀ (L M : List (Nat × List UInt8)), D.all (L ++ M) = if (D.all L).2 = 0 then (D.all L).1.all M else D.all L
  | [], M => by simp [DiskS.all]
  | x :: r, M => by
    simp only [List.cons_append, DiskS.all]
    by_cases h : (D.write x.1 x.2).2 = 0
    · simp only [if_pos h]
      rw [DiskS.all_append _ r M]
    · simp only [if_neg h]
theorem DiskS.all_snoc (D : DiskS) (L : List (Nat × List UInt8)) (x : Nat × List UInt8) (h : (D.all L).2 = 0) : D.all (L ++ [x]) = (D.all L).1.write x.1 x.2 := by
  rw [D.all_append, if_pos h]
  simp only [DiskS.all]
  by_cases e : ((D.all L).1.write x.1 x.2).2 = 0
  · simp only [if_pos e]
    exact Prod.ext rfl e.symm
  · simp only [if_neg e]
theorem DiskS.all_stop (D : DiskS) (L M : List (Nat × List UInt8)) (h : (D.all L).2 ≠ 0) : D.all (L ++ M) = D.all L := by rw [D.all_append, if_neg h]
theorem DiskS.write_blocks (D : DiskS) (n : Int) (b : List UInt8) : (D.write n b).1.blocks = D.blocks := by
  unfold DiskS.write DiskS.done
  repeat' split
  all_goals rfl
theorem DiskS.all_blocks : ∀ (L : List (Nat × List UInt8)) (D : DiskS), (D.all L).1.blocks = D.blocks
  | [], D => rfl
  | x :: r, D => by
    simp only [DiskS.all]
    split
    · rw [DiskS.all_blocks r, D.write_blocks]
    · rw [D.write_blocks]

/-- Somewhere within lay, or behind it: the disk is R's. -/
def LayEnd (W wr : World) (pb db : Nat) (F G : Nat → Prop) (S : PgS) (D' : DiskS) : Prop :=
  ∃ G', PgOn wr pb db F G' D' S ∧ (∀ k, G k → G' k) ∧ (∀ k, G' k → G k ∨ W.heap.size ≤ k) ∧ Keeps (fun k => G k ∨ k = pb) W wr
/-- All went well so far. -/
structure LayAt (W wr : World) (pb db : Nat) (F G : Nat → Prop) (D : DiskS) (S : PgS) (L : List (Nat × List UInt8)) : Prop where
  ok : (D.all L).2 = 0
  at' : LayEnd W wr pb db F G S (D.all L).1

theorem LayAt.start {W : World} {pb db : Nat} {F G : Nat → Prop} {D : DiskS} {S : PgS} (h : PgOn W pb db F G D S) : LayAt W W pb db F G D S [] := ⟨rfl, G, h, fun _ h => h, fun _ h => .inl h, Keeps.refl _ _⟩
theorem LayAt.below {W wr w' : World} {pb db : Nat} {F G : Nat → Prop} {D : DiskS} {S : PgS} {L : List (Nat × List UInt8)} (h : LayAt W wr pb db F G D S L) (hB : Below wr.heap.size wr w') : LayAt W w' pb db F G D S L := by
  obtain ⟨ok, G', h1, h2, h3, h4⟩ := h
  exact ⟨ok, G', h1.below hB, h2, h3, h4.trans (Keeps.of_below hB)⟩
theorem PgAt.tickRow {w w' : World} {pb db o : Nat} {F H : Nat → Prop} {S : PgS} (h : PgAt w pb db F S) (k : TickRow pb o w w') (ho : o = 11 ∨ o = 12) (kk : Keeps H w w') (hH : ∀ k, F k → k ≠ pb → ¬ H k) : PgAt w' pb db F S := by
  obtain ⟨v5, v6, mb, fb, c, hm⟩ := h.ex
  have hr : ∀ o', o' ≠ 11 → o' ≠ 12 → w'.cell? ⟨pb, o', none⟩ = w.cell? ⟨pb, o', none⟩ := fun o' h1 h2 => k.row o' (by omega)
  refine ⟨⟨v5, v6, mb, fb, ⟨(hr 0 (by omega) (by omega)).trans c.c0, (hr 4 (by omega) (by omega)).trans c.c4, (hr 5 (by omega) (by omega)).trans c.c5, (hr 6 (by omega) (by omega)).trans c.c6, (hr 7 (by omega) (by omega)).trans c.c7, (hr 8 (by omega) (by omega)).trans c.c8,
    (hr 9 (by omega) (by omega)).trans c.c9, (hr 10 (by omega) (by omega)).trans c.c10, ?_, ?_, fun o' => (k.frz o').trans (c.frz o')⟩, hm.stay (fun j hj hf hne => kk.block j hj (hH j hf hne)) kk.size⟩, h.own, fun j hj => Nat.lt_of_lt_of_le (h.lim j hj) kk.size⟩
  · rcases ho with rfl | rfl
    · exact k.tick
    · exact c.c11.imp fun _ e => (k.row 11 (by omega)).trans e
  · rcases ho with rfl | rfl
    · exact c.c12.imp fun _ e => (k.row 12 (by omega)).trans e
    · exact k.tick
/-- One block more. -/
theorem LayEnd.wrote {W w1 w2 : World} {pb db : Nat} {F G : Nat → Prop} {S : PgS} {D' : DiskS} {v : Value} {R : DiskS × Int} {e : Ending} {G' : Nat → Prop} (h1 : PgOn w1 pb db F G' D' S) (h2 : ∀ k, G k → G' k) (h3 : ∀ k, G' k → G k ∨ W.heap.size ≤ k) (h4 : Keeps (fun k => G k ∨ k = pb) W w1)
    (hv : ∀ k, v.ownBlock = some k → W.heap.size ≤ k ∧ ¬ F k) (hR : R.1.blocks = D'.blocks) (hw : WrPgPost w1 pb db G' v R e w2) : LayEnd W w2 pb db F G S R.1 := by
  obtain ⟨_, G'', hd, hu, hn, hk, ht⟩ := hw
  have hs := hk.size
  refine ⟨G'', ⟨hd, ?_, ?_, fun k hF hG => ?_⟩, fun k hk1 => hu k (h2 k hk1), fun k hk1 => ?_, h4.trans' hk (fun j hj e => ?_)⟩
  · exact h1.pg.tickRow ht (.inr rfl) hk (fun k hF hne hh => by
      rcases hh with h | h | h
      · exact h1.dis k hF h
      · exact hne h
      · exact (hv k h).2 hF)
  · rw [hR]; exact h1.bl
  · rcases hn k hG with h | h | h
    · exact h1.dis k hF h
    · exact (hv k h).2 hF
    · have := h1.pg.lim k hF; omega
  · rcases hn k hk1 with h | h | h
    · exact h3 k h
    · exact .inr (hv k h).1
    · exact .inr (Nat.le_trans h4.size h)
  · rcases e with e | e | e
    · exact .inl ((h3 j e).resolve_right (by omega))
    · exact .inr e
    · have := (hv j e).1; omega

/-- A block is written within lay: v's own block is new since wr. -/
def LayWr (W wr : World) (pb db : Nat) (F G : Nat → Prop) (D : DiskS) (S : PgS) (L : List (Nat × List UInt8)) (x : Nat × List UInt8) (e : Ending) (w' : World) : Prop :=
  ∃ er : Int, e = .returned (.int .i64 er) ∧ er = (D.all (L ++ [x])).2 ∧ LayEnd W w' pb db F G S (D.all (L ++ [x])).1
theorem lay_write {W wr w1 : World} {pb db : Nat} {F G : Nat → Prop} {D : DiskS} {S : PgS} {L : List (Nat × List UInt8)} (h : LayAt W wr pb db F G D S L) (hB : Below wr.heap.size wr w1) (n : Nat) (hn : n < D.blocks) (v : Value) (zs : List UInt8) (ho : Row w1 wr.heap.size v zs) (hz : zs.length ≤ 512) :
    Calls Try.prog 46 #[.pointer (some ⟨pb, 0, none⟩), .int .i64 n, v] w1 (LayWr W wr pb db F G D S L (n, padB zs)) := by
  obtain ⟨ok, G', h1, h2, h3, h4⟩ := h
  have h1' := h1.below hB
  obtain ⟨v5, v6, mb, fb, c, m⟩ := h1'.pg.ex
  obtain ⟨x, c12⟩ := c.c12
  have hv := ho.blk
  refine (pg_write (D := (D.all L).1) h1'.dk h1'.pg.lt h1'.npb c.c0 c12 (c.frz 12) n (by rw [D.all_blocks L]; exact hn) wr.heap.size v zs ho hB.size hz (fun k hk => ⟨fun hG => by have := h1.dk.lim k hG; have := (hv k hk).1; omega, fun e => by have := h1.pg.lt; have := (hv k hk).1; omega⟩)).mono ?_
  rintro e w2 hw
  have he := D.all_snoc L (n, padB zs) ok
  refine ⟨_, hw.1, by rw [he], ?_⟩
  rw [he]
  exact LayEnd.wrote h1' h2 h3 (h4.trans (Keeps.of_below hB)) (fun k hk => ⟨Nat.le_trans h4.size (hv k hk).1, fun hF => by have := h1.pg.lim k hF; have := (hv k hk).1; omega⟩) (by rw [D.all_blocks L, DiskS.write_blocks, D.all_blocks L]) hw

/-- A row of its own is answered. -/
def NewRow (w : World) (zs : List UInt8) (e : Ending) (w' : World) : Prop := ∃ v', e = .returned v' ∧ Row w' w.heap.size v' zs ∧ Below w.heap.size w w'

set_option maxHeartbeats 1600000 in
set_option maxRecDepth 100000 in
/-- A number is put behind bytes that fill their slice. -/
theorem pg_put_full (gb : Nat) (xs : List UInt8) (n : Nat) (w : World) (hr : Reads w (.slice (some ⟨gb, 0, none⟩) 8 8) xs) (hx : xs.length = 8) (hgb : gb < w.heap.size) (hn : n < 9223372036854775808) :
    Calls Try.prog 47 #[.slice (some ⟨gb, 0, none⟩) 8 8, .int .i64 8, .int .i64 n] w (NewRow w (xs ++ beB 8 n)) := by
  obtain ⟨i0, hi, hz0, hz1, hz2⟩ := info_parts infoU8
  have hn0 : (0 : Int) ≤ (n : Int) := by omega
  have hn1 : (n : Int) < 9223372036854775808 := by omega
  have HB := Lib.hid (And.intro hr (And.intro hx hgb))
  clear hr hx hgb hn
  go_enter Try.func47, Try.ntmps47
  go_wp2
  go_loopg [0, 7] 8 (fun g s0 s7 wr => ∃ j : Nat, j + g = 8 ∧ s7 = .int .i64 ((g : Int) - 1) ∧ ((j = 0 ∧ s0 = .slice (some ⟨gb, 0, none⟩) 8 8) ∨ (1 ≤ j ∧ Row wr w.heap.size s0 (xs ++ (beB 8 n).take j))) ∧ Below w.heap.size w wr)
  case atStart => exact ⟨0, by omega, rfl, .inl ⟨rfl, rfl⟩, Below.refl _ _⟩
  case round =>
    obtain ⟨j, hjg, rfl, hrow, hB⟩ := hrel
    cases gk with
    | zero =>
      have hrow' := hrow.resolve_left (by omega)
      have F := Lib.hid (And.intro hrow'.2 hB)
      clear hrow hB hrow'
      go_wp2
      go_ret
      refine ⟨_, rfl, ?_, F.out.2⟩
      have := F.out.1
      rwa [List.take_of_length_le (by rw [beB_length]; omega)] at this
    | succ g =>
      have e1 : ((g + 1 : Nat) : Int) - 1 = (g : Int) := by omega
      rw [e1]
      have hg0 : (0 : Int) ≤ (g : Int) := by omega
      have hg8 : (g : Int) < 8 := by omega
      have s2 : (8 * (g : Int)).toNat = 8 * g := by omega
      clear e1
      rcases hrow with ⟨rfl, rfl⟩ | ⟨hj1, hrow⟩
      · have HG : Hid (g = 7) := Lib.hid (by omega)
        clear hjg
        have HR := Lib.hid (And.intro hB (HB.out.1.below hB))
        clear hB
        have hold : ∀ (o : Obj) (b : Addr), some (⟨gb, 0, none⟩ : Addr) = some b → ∀ j u, (bcells xs)[j]? = some u → (wr.alloc o).cell? (b.add j) = some u := fun o b hb j u hj => by
          cases hb
          rw [Addr.add_lit]
          refine Lib.cell?_alloc_some _ ?_
          rcases HR.out.2 with ⟨h1, _⟩ | ⟨b', off', cap, h1, h2, h3, h4⟩
          · cases h1
          · simp only [Value.slice.injEq, Option.some.injEq, Addr.mk.injEq] at h1
            obtain ⟨⟨rfl, rfl, _⟩, _, _⟩ := h1
            have hjn : j < xs.length := by
              have := (List.getElem?_eq_some_iff.1 hj).1
              simpa [bcells] using this
            have e : (bcells xs)[j]? = some (.int .u8 (xs[j].toNat : Int)) := by simp [bcells, hjn]
            rw [e] at hj
            cases hj
            exact h4 j xs[j] (List.getElem?_eq_getElem hjn)
        have HO := Lib.hid hold
        have b1 : 8 + 1 ≤ maxLen := by unfold maxLen; decide
        clear hold
        go_wp2_with (at_builtin; go_must (refine wpList_append_grows _ rfl (.tmp 14) (.tmp 20) 22 rfl 5 i0 (.int .u8 0) 1 1 Try.underlying22 hi hz0 hz1 hz2 rfl (by decide) (some ⟨gb, 0, none⟩) 8 8 (bcells xs) rfl (fun h => by cases h) (by rw [bcells_length, HB.out.2.1]) (HO.out _) ⟨wr.heap.size, 0, none⟩ 1 1 (bcells [byteOf ((n : Int) / 2 ^ (8 * g))]) rfl rfl (news_one _ _ _ (wrap_byteOf _) _) (bcells_oneCell _) (by decide) b1 (by decide) ?_))
        intro v' w1 hown1 hgrow
        have F : Hid (Row w1 w.heap.size v' (xs ++ (beB 8 n).take 1) ∧ Below w.heap.size w w1) := Lib.hid ⟨by
          have e := beB_take 8 n 0 g (by rw [HG.out])
          rw [List.take_zero, List.nil_append] at e
          unfold Row
          rw [show (0 + 1) = 1 from rfl] at e
          rw [e, bcells_append, List.length_append, HB.out.2.1]
          refine ownsRow_base hown1 (by have := HR.out.1.size; simp; omega), (HR.out.1.alloc HR.out.1.size _).grown hgrow (by have := HR.out.1.size; simp; omega) (fun k hk => by cases hk)⟩
        clear hown1 hgrow
        go_wp2
        go_roundg g
        case measure => omega
        case rel => exact ⟨1, by rw [HG.out], by first | rfl | go_num, .inr ⟨Nat.le_refl _, F.out.1⟩, F.out.2⟩
      · have hlen : (xs ++ (beB 8 n).take j).length ≤ 100008 := by
          have := HB.out.2.1
          rw [List.length_append, List.length_take, beB_length]; omega
        generalize hz : xs ++ (beB 8 n).take j = zs at *
        have HZ := Lib.hid hz
        have HR := Lib.hid (And.intro hrow (And.intro hB hlen))
        clear hz hrow hB hlen
        have hfit : Fits (zs.length + 1) := fits_of _ (by have := HR.out.2.2; omega)
        go_wp2_with (at_builtin; refine wpList_append_lies _ rfl (.tmp 14) (.tmp 20) 22 rfl w.heap.size 5 i0 (.int .u8 0) 1 1 Try.underlying22 hi hz0 hz1 hz2 rfl (by decide) u0 zs.length (bcells zs) rfl (HR.out.1.alloc _) ⟨wr.heap.size, 0, none⟩ 1 1 (bcells [byteOf ((n : Int) / 2 ^ (8 * g))]) rfl rfl (news_one _ _ _ (wrap_byteOf _) _) (bcells_oneCell _) (by decide) hfit.max hfit.reach (by have := HR.out.2.1.size; simp; omega) (wr.heap.size + 1) (by simp) ?_)
        intro g' cap w1 hown1 hgrow hg hlt
        have F := Lib.hid (And.intro hown1 ((HR.out.2.1.alloc HR.out.2.1.size _).grown hgrow (by have := HR.out.2.1.size; simp; omega) (fun k hk => (HR.out.1.blk k hk).1)))
        clear hown1 hgrow hg hlt
        go_wp2
        go_roundg g
        case measure => omega
        case rel =>
          refine ⟨j + 1, by omega, by first | rfl | go_num, .inr ⟨by omega, ?_⟩, F.out.2⟩
          rw [beB_take 8 n j g (by omega), ← List.append_assoc, HZ.out]
          have := F.out.1
          unfold Row
          rw [bcells_append, List.length_append]
          exact this
end Go.Proofs.Ytjbomdhlfjcgmaa
