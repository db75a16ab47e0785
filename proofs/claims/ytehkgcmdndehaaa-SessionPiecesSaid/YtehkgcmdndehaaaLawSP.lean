/-
  Law SessionPieces, walked.
-/
import Derived.Test.YtehkgcmdndehaaaSesB
import Derived.Test.YtehkgcmdndehaaaLawSB
import Derived.Test.YtehkgcmdndehaaaLdRow
namespace Go.Proofs.Ytehkgcmdndehaaa
set_option linter.unusedSimpArgs false
set_option linter.unusedVariables false
open Go.RowKit
attribute [local irreducible] feedAll feedL parseReqC itemCells frameN feedSt

/-- What a block's row owns stays where the block stays. -/
theorem ownsRow_same {w w' : World} {base : Nat} {e : TypeId} {size : Nat} {v : Value} {n : Nat} {xs : List Value} (h : w.ownsRow base e size v n xs) (hb : ∀ k, v.ownBlock = some k → w'.heap[k]? = w.heap[k]?) : w'.ownsRow base e size v n xs := by
  refine ⟨h.1, ?_⟩
  rcases h.2 with hn | ⟨g, cap, cur, rfl, hg, hgg, rest⟩
  · exact .inl hn
  · exact .inr ⟨g, cap, cur, rfl, hg, (hb g rfl).trans hgg, rest⟩
theorem SesIs.same {w w' : World} {b : Nat} {v : Value} {bs : List UInt8} {brk : Bool} (h : SesIs w b v bs brk) (hb : w'.heap[b]? = w.heap[b]?) (hv : ∀ k, v.ownBlock = some k → w'.heap[k]? = w.heap[k]?) (hs : w.heap.size ≤ w'.heap.size) : SesIs w' b v bs brk := by
  obtain ⟨d, h, hd⟩ := h.at'
  have hc : ∀ o, w'.cell? ⟨b, o, none⟩ = w.cell? ⟨b, o, none⟩ := fun o => World.cell?_of_block hb
  exact ⟨d, ⟨(hc 0).trans h.c0, (hc 1).trans h.c1, (hc 3).trans h.c3, (hc 4).trans h.c4, fun o => (World.frozen?_of_block hb).trans (h.frz o), Nat.lt_of_lt_of_le h.lt hs, by have := h.own; unfold OwnB at *; exact ownsRow_same this hv⟩, hd⟩
/-- Each item is a request's cells and a number. -/
theorem feed_shape (bs : List UInt8) : ∀ x ∈ (feedAll bs).1, ∃ (q : ReqD) (e : Int), x = q.cells.toList ++ [.int .i64 e] := by
  have h : ∀ (n : Nat) (bs : List UInt8), bs.length < n → ∀ x ∈ (feedAll bs).1, ∃ (q : ReqD) (e : Int), x = q.cells.toList ++ [.int .i64 e] := by
    intro n
    induction n with
    | zero => intro bs h; omega
    | succ n ih =>
      intro bs hn x hx
      by_cases h1 : bs.length < 2
      · rw [feedAll_few bs h1] at hx; cases hx
      by_cases h2 : frameN bs = 0 ∨ 512 < frameN bs
      · rw [feedAll_bad bs h1 h2] at hx
        simp at hx
        subst hx
        exact ⟨reqZ0, 5, rfl⟩
      by_cases h3 : bs.length < 2 + frameN bs
      · rw [feedAll_wait bs h1 h2 h3] at hx; cases hx
      rw [feedAll_item bs h1 h2 h3] at hx
      rcases List.mem_cons.1 hx with rfl | hx
      · obtain ⟨q, hq⟩ := parseReqC_shape ((bs.drop 2).take (frameN bs))
        exact ⟨q, (parseReqC ((bs.drop 2).take (frameN bs))).2, by rw [itemCells_eq, hq]⟩
      · exact ih _ (by rw [List.length_drop]; omega) x hx
  exact h _ bs (Nat.lt_succ_self _)
theorem feedSt_shape (bs : List UInt8) (brk : Bool) (zs : List UInt8) : ∀ x ∈ (feedSt bs brk zs).1, ∃ (q : ReqD) (e : Int), x = q.cells.toList ++ [.int .i64 e] := by
  cases brk with
  | true => intro x hx; rw [feedSt_brk] at hx; cases hx
  | false => rw [feedSt_ok]; exact feed_shape _
theorem items_one {xs : List (List Value)} (h : ∀ x ∈ xs, ∃ (q : ReqD) (e : Int), x = q.cells.toList ++ [.int .i64 e]) : ∀ u ∈ itemsV xs, u.oneCell' = true := by
  intro u hu
  unfold itemsV at hu
  obtain ⟨x, hx, hux⟩ := List.mem_flatMap.1 hu
  obtain ⟨q, e, rfl⟩ := h x hx
  exact itemA_one q e u hux
theorem items_len : ∀ (xs : List (List Value)), (∀ x ∈ xs, x.length = 19) → (itemsV xs).length = xs.length * 19
  | [], _ => rfl
  | x :: xs, h => by
    have h1 := h x List.mem_cons_self
    have h2 := items_len xs (fun y hy => h y (List.mem_cons_of_mem _ hy))
    rw [show itemsV (x :: xs) = x ++ itemsV xs from rfl, List.length_append, h1, h2, List.length_cons]
    omega
theorem itemsV_nil : itemsV [] = [] := rfl
theorem itemsV_append (xs ys : List (List Value)) : itemsV (xs ++ ys) = itemsV xs ++ itemsV ys := by unfold itemsV; rw [List.flatMap_append]
/-- append of a row of items, as a call answered them, onto a row of the call's own. -/
theorem wpList_append_items {w : World} {ops : Array Oper} {rest : List Oper} {o : Oper} {a : Act} {Q : Exit → Act → World → Prop} (hgd : o.guard = none) (s x : Operand)
    (ho : o.op = .call { callee := .builtin .append, args := #[s, x], argTypes := #[52, 52] }) (hty : o.type = 52)
    (base b2 : Nat) (v : Value) (n : Nat) (xs : List Value) (hs : a.eval s = v) (hown : w.ownsRow base 56 19 v n xs) (A : Option Addr) (m c : Nat) (ys : List Value) (hx : a.eval x = .slice A m c)
    (hys : w.ownsRow b2 56 19 (.slice A m c) m ys) (h1 : ∀ u ∈ ys, u.oneCell' = true) (hn : n + m ≤ 1000000) (hbase : base ≤ w.heap.size)
    (h : ∀ v' w', w'.ownsRow base 56 19 v' (n + m) (xs ++ ys) → w.grownBy w' v.ownBlock → (v'.ownBlock = v.ownBlock ∨ v'.ownBlock = some w.heap.size) → wpList Try.prog ops Q rest (a.put o.dst v') w') : wpList Try.prog ops Q (o :: rest) a w :=
  wpList_plain hgd fun _ hK => by
    obtain ⟨i0, hi, hz0, hz1, hz2⟩ := info_parts infoItem
    have key : ∃ v' w', (Builtin.append_ #[52, 52] o.type #[v, .slice A m c]).run Try.prog w = .ok v' w' ∧ w'.ownsRow base 56 19 v' (n + m) (xs ++ ys) ∧ w.grownBy w' v.ownBlock ∧ (v'.ownBlock = v.ownBlock ∨ v'.ownBlock = some w.heap.size) := by
      rcases hys.2 with ⟨hv0, h0⟩ | ⟨g, cap, cur, hv0, hg, hgg, rest'⟩
      · cases hv0
        have hy0 : ys = [] := List.eq_nil_of_length_eq_zero (by have := hys.1; simpa using this)
        subst hy0
        refine ⟨v, w, ?_, by simpa using hown, ⟨rfl, rfl, rfl, Nat.le_refl _, fun _ _ _ => rfl⟩, .inl rfl⟩
        rcases hown.2 with ⟨rfl, h0⟩ | ⟨g, cap, cur, rfl, _, _, hnc, _⟩
        · simp [Builtin.append_, run_underlying Try.underlying52, sizeOf, typeInfo, hi, Builtin.lenOf, Builtin.firstCells, h0]
        · simp [Builtin.append_, run_underlying Try.underlying52, sizeOf, typeInfo, hi, Builtin.lenOf, Builtin.firstCells, hnc, storeCells]
      · cases hv0
        obtain ⟨v', w', hrun, h2, h3, _, h5⟩ := run_append_own_at (P := Try.prog) w base 52 o.type 56 i0 (.agg itemZ) 19 184 Try.underlying52 hi hz0 hz1 hz2 rfl (by decide) v n xs hown
          ⟨g, 0, none⟩ m c ys hys.1 (hys.cells (g := g) rfl) h1 (by unfold maxLen; omega) (by omega) hbase
        exact ⟨v', w', hrun, h2, h3, h5⟩
    obtain ⟨v', w', hrun, h2, h3, h5⟩ := key
    unfold Oper.wp execOp
    simp only [ho, resolve, invoke, builtin, Sem.run_bind, Sem.run_pure, Result.andThen_ok, List.map_toArray, List.map_cons, List.map_nil, hs, hx, hrun]
    exact hK _ _ (h v' w' h2 h3 h5)

/-- A struct loaded from the midst of a block, as one rule. -/
def okPtrM (n : Nat) (v : Value) (w : World) : Bool := match v with | .pointer (some ⟨b, o, none⟩) => isRow w b o n | _ => false
def ptrRowM (n : Nat) (v : Value) (w : World) : Array Value := match v with | .pointer (some ⟨b, o, none⟩) => rowOf w b o n | _ => #[]
@[go_sem] theorem okPtrM_ptr (n b o : Nat) (w : World) : okPtrM n (.pointer (some ⟨b, o, none⟩)) w = isRow w b o n := rfl
@[go_sem] theorem ptrRowM_ptr (n b o : Nat) (w : World) : ptrRowM n (.pointer (some ⟨b, o, none⟩)) w = rowOf w b o n := rfl
theorem ld_item (ρ : Operand → Value) (dst : Option Tmp) (x : Operand) (t : TypeId) (pos : String) (after : Array Edge) (guard : Option (Nat × Bool)) (w : World) (h : okPtrM 19 (ρ x) w = true) :
    (execOp ρ { dst, op := .load 56 x, type := t, pos, after, guard }).run Try.prog w = .ok (.value (.agg (ptrRowM 19 (ρ x) w))) w := by
  unfold okPtrM at h
  split at h
  · rename_i b o hv
    unfold execOp
    have := run_load_rowOf (P := Try.prog) w 56 b o 19 _ Try.underlying56 rfl (by kernel_rfl) h
    simp only [Sem.run_bind, hv, this, Result.andThen_ok, Sem.run_pure, ptrRowM_ptr]
  · cases h
set_option maxRecDepth 100000 in
theorem neq_item (q : ReqD) (e : Int) (w : World) : (binOp .neq 56 (.agg (itemA q e)) (.agg (itemA q e))).run Try.prog w = .ok (.bool false) w := by
  unfold itemA ReqD.cells
  go_simp

theorem Reads.blk {w : World} {v : Value} {zs : List UInt8} (h : Reads w v zs) (k : Nat) (hk : v.ownBlock = some k) : k < w.heap.size := by
  rcases h with ⟨rfl, _⟩ | ⟨b, off, cap, rfl, _, hb, _⟩
  · cases hk
  · cases hk; exact hb
theorem feedSt_zero (zs : List UInt8) : feedSt [] false zs = feedAll zs := by rw [feedSt_ok]; rfl
/-- Where the two sessions stand: s was fed all, t the first k bytes; one is what t answered. -/
structure TwoAt (w5 wr : World) (b2 : Nat) (v s9 : Value) (zs : List UInt8) (k : Nat) : Prop where
  ses : SesIs wr b2 v (feedAll (zs.take k)).2.1 (feedAll (zs.take k)).2.2
  fed : Fed w5 wr b2 (.slice none 0 0) v
  one : wr.ownsRow w5.heap.size 56 19 s9 (feedAll (zs.take k)).1.length (itemsV (feedAll (zs.take k)).1)
  apart : ∀ j, s9.ownBlock = some j → v.ownBlock ≠ some j
  lt : b2 < w5.heap.size
theorem TwoAt.step {w5 wr w6 w7 : World} {b2 : Nat} {v v6 s9 s7 : Value} {zs : List UInt8} {k : Nat} {x : UInt8} (h : TwoAt w5 wr b2 v s9 zs k) (hx : zs[k]? = some x)
    (hs : SesIs w6 b2 v6 (feedSt (feedAll (zs.take k)).2.1 (feedAll (zs.take k)).2.2 [x]).2.1 (feedSt (feedAll (zs.take k)).2.1 (feedAll (zs.take k)).2.2 [x]).2.2) (hf : Fed wr w6 b2 v v6)
    (ho : w7.ownsRow w5.heap.size 56 19 s7 ((feedAll (zs.take k)).1.length + (feedSt (feedAll (zs.take k)).2.1 (feedAll (zs.take k)).2.2 [x]).1.length) (itemsV (feedAll (zs.take k)).1 ++ itemsV (feedSt (feedAll (zs.take k)).2.1 (feedAll (zs.take k)).2.2 [x]).1))
    (hg : w6.grownBy w7 s9.ownBlock) (hn : s7.ownBlock = s9.ownBlock ∨ s7.ownBlock = some w6.heap.size) : TwoAt w5 w7 b2 v6 s7 zs (k + 1) := by
  have he := feed_step zs k x hx
  have hlt9 : ∀ j, s9.ownBlock = some j → w5.heap.size ≤ j ∧ j < wr.heap.size := fun j hj => h.one.lt j hj
  have hv6 : ∀ j, s9.ownBlock = some j → v6.ownBlock ≠ some j := fun j hj => hf.other (hlt9 j hj).2 (h.apart j hj)
  have hB : Below w5.heap.size w6 w7 := (Below.refl _ _).grown hg (Nat.le_trans h.fed.size hf.size) (fun j hj => (hlt9 j hj).1)
  refine ⟨?_, ?_, ?_, ?_, h.lt⟩
  · rw [he]
    refine hs.same (hg.block b2 (Nat.lt_of_lt_of_le h.lt (Nat.le_trans h.fed.size hf.size)) (fun e => by have := (hlt9 b2 e.symm).1; have := h.lt; omega)) (fun j hj => ?_) hg.size
    exact hg.block j (hs.own.lt j hj).2 (fun e => hv6 j e.symm hj)
  · exact (h.fed.trans hf).over hB (Nat.le_refl _)
  · rw [he, List.length_append, itemsV_append]
    exact ho
  · intro j hj e
    rcases hn with hn | hn
    · exact hv6 j (hn.symm.trans hj) e
    · rw [hn] at hj
      cases hj
      have := (hs.own.lt _ e).2
      omega
attribute [local irreducible] itemA itemsV
attribute [local go_sem ↓] ld_item

set_option maxHeartbeats 3200000 in
set_option maxRecDepth 100000 in
theorem sessionPieces_walk {w : World} (v0 : Value) (qs : List ReqD) (h0 : RdReqs w v0 qs) (v1 : Value) (rows : List (List UInt8)) (h1 : RdRows w v1 rows) :
    Calls Try.prog 6 #[v0, v1] w (TrueBelow w) := by
  have ea := neq_item
  have H0 := Lib.hid (And.intro h0 h1)
  have hv0 : ∃ a n c, v0 = .slice a n c := by
    rcases h0 with ⟨_, a, c, rfl⟩ | ⟨b, off, c, rfl, _⟩
    · exact ⟨_, _, _, rfl⟩
    · exact ⟨_, _, _, rfl⟩
  have hv1 : ∃ a n c, v1 = .slice a n c := by
    rcases h1 with ⟨_, a, c, rfl⟩ | ⟨b, off, c, rfl, _⟩
    · exact ⟨_, _, _, rfl⟩
    · exact ⟨_, _, _, rfl⟩
  clear h0 h1
  obtain ⟨a0, n0, c0, rfl⟩ := hv0
  obtain ⟨a1, n1, c1, rfl⟩ := hv1
  go_enter Try.func6, Try.ntmps6
  go_upto_region 3 with (go_at_call 21; refine (l19_known _).mono ?_; rintro e w1 ⟨rfl, hB1⟩; have B1 := Lib.hid hB1; clear hB1)
  have H1 : Hid (RdReqs w1 (.slice a0 n0 c0) qs ∧ RdRows w1 (.slice a1 n1 c1) rows) := Lib.hid ⟨H0.out.1.on B1.out, H0.out.2.on B1.out⟩
  go_upto_region 4 with (go_at_call 22; refine (ses_bytes _ qs H1.out.1 _ rows H1.out.2).mono ?_; rintro e w2 ⟨v2, z2, rfl, ho2, hl2, hB2⟩; have X2 := Lib.hid (And.intro ho2 (And.intro hl2 hB2)); clear ho2 hl2 hB2)
  obtain ⟨a2, c2, hv2⟩ := (Reads.of_own X2.out.1).len
  subst hv2
  have BW2 : Hid (Below w.heap.size w w2) := Lib.hid (B1.out.trans (X2.out.2.2.mono B1.out.size))
  have R2 : Hid (Reads w2 (.slice a2 z2.length c2) z2) := Lib.hid (Reads.of_own X2.out.1)
  have L2 : Hid (z2.length ≤ 24000) := Lib.hid X2.out.2.1
  clear X2 H1 H0 B1
  obtain ⟨n2, hn2⟩ : ∃ n2, n2 = z2.length := ⟨_, rfl⟩
  rw [← hn2] at R2 L2
  rw [← hn2]
  have HN2 := Lib.hid hn2
  clear hn2
  go_cut [19] (fun s19 wx => s19 = .bool (decide (3000 < n2)) ∧ wx = w2)
  case first =>
    by_cases p1 : 3000 < n2
    · have p1' : (3000 : Int) < (n2 : Int) := by omega
      have P := Lib.hid p1
      clear p1
      go_wp2
      go_meet
      exact ⟨by rw [decide_eq_true P.out], rfl⟩
    · have p1' : ¬ (3000 : Int) < (n2 : Int) := by omega
      have P := Lib.hid p1
      clear p1
      go_wp2
      go_meet
      exact ⟨by rw [decide_eq_false P.out], rfl⟩
  case rest =>
    obtain ⟨rfl, hwc⟩ := hcut
    have R3 : Hid (Reads wc (.slice a2 n2 c2) z2) := Lib.hid (by rw [hwc]; exact R2.out)
    have BW3 : Hid (Below w.heap.size w wc) := Lib.hid (by rw [hwc]; exact BW2.out)
    clear hwc R2 BW2
    obtain ⟨W3, rfl⟩ : ∃ x : World, x = wc := ⟨_, rfl⟩
    go_upto_if 19 with (fail)
    go_cut [5] (fun s5 wx => ∃ (A : Option Addr) (n C : Nat) (zs : List UInt8), s5 = .slice A n C ∧ n = zs.length ∧ Reads wx (.slice A n C) zs ∧ n ≤ 3000 ∧ wx = W3)
    case first =>
      by_cases p1 : 3000 < n2
      · have P : Hid (decide (3000 < n2) = true) := Lib.hid (decide_eq_true p1)
        rcases R3.out with ⟨h, _⟩ | ⟨gb, off, cap, hv, hcap, hgb, hx⟩
        · exfalso; injection h with h1 h2; omega
        · injection hv with h1 h2 h3
          subst h1
          have hc3 : 3000 ≤ c2 := by rw [h3]; omega
          have HX := Lib.hid (And.intro h2 (And.intro hgb hx))
          clear h2 h3 hcap hgb hx p1
          rw [P.out]
          go_wp2
          go_meet
          refine ⟨_, 3000, c2, z2.take 3000, rfl, by rw [List.length_take]; have := HX.out.1; have := of_decide_eq_true P.out; omega, .inr ⟨gb, off, c2, by rw [List.length_take, Nat.min_eq_left (by have := HX.out.1; have := of_decide_eq_true P.out; omega)], by rw [List.length_take]; omega, HX.out.2.1, fun i x hi => ?_⟩, Nat.le_refl _, rfl⟩
          rw [List.getElem?_take] at hi
          split at hi
          · exact HX.out.2.2 i x hi
          · cases hi
      · have P : Hid (decide (3000 < n2) = false ∧ n2 ≤ 3000) := Lib.hid ⟨decide_eq_false p1, by omega⟩
        clear p1
        rw [P.out.1]
        go_wp2
        go_meet
        exact ⟨a2, n2, c2, z2, rfl, HN2.out, R3.out, P.out.2, rfl⟩
    case rest =>
      obtain ⟨A, n, C, zs, rfl, hn, hr, hn3, hwc⟩ := hcut
      have BW4 : Hid (Below w.heap.size w wc) := Lib.hid (by rw [hwc]; exact BW3.out)
      have HN := Lib.hid hn
      have HR := Lib.hid hr
      clear hwc BW3 R3 hn hr
      obtain ⟨W4, rfl⟩ : ∃ x : World, x = wc := ⟨_, rfl⟩
      have hcase : n = 0 ∨ ∃ gb off, A = some ⟨gb, off, none⟩ ∧ n ≤ C ∧ gb < W4.heap.size ∧ ∀ (i : Nat) (x : UInt8), zs[i]? = some x → W4.cell? ⟨gb, off + i, none⟩ = some (.int .u8 (x.toNat : Int)) := by
        rcases HR.out with ⟨h, _⟩ | ⟨gb, off, cap, hv, hcap, hgb, hx⟩
        · left; injection h
        · right
          injection hv with h1 h2 h3
          exact ⟨gb, off, h1, by rw [h2, h3]; exact hcap, hgb, hx⟩
      rcases hcase with hn0 | ⟨gb, off, hA, hnC, hgb, hx⟩
      · have HN0 := Lib.hid hn0
        clear hn0
        have tok1 : True := trivial
        go_upto_region 7 with (first
          | (go_at_call 23; have _t := tok1; refine (ses_new _).mono ?_; rintro e w3 hN; have X3 := Lib.hid (And.intro (SesIs.new hN) hN.2.2); obtain ⟨rfl, _⟩ := hN; clear tok1 _t)
          | (go_at_call 23; refine (ses_new _).mono ?_; rintro e w4 hN; have X4 := Lib.hid (And.intro (SesIs.new hN) hN.2.2); obtain ⟨rfl, _⟩ := hN))
        have hs34 : Hid (W4.heap.size < w3.heap.size ∧ w3.heap.size < w4.heap.size) := Lib.hid ⟨X3.out.1.lt, X4.out.1.lt⟩
        generalize hb1 : W4.heap.size = b1 at *
        generalize hb2 : w3.heap.size = b2 at *
        have HB1 := Lib.hid hb1
        have HB2 := Lib.hid hb2
        clear hb1 hb2
        have R4 : Hid (Reads w4 (.slice A n C) zs) := Lib.hid ((HR.out.below (by rw [HB1.out]; exact X3.out.2)).below (by rw [HB2.out]; exact X4.out.2))
        have N4 : Hid (∀ j, (Value.slice A n C).ownBlock = some j → j ≠ b1 ∧ (Value.slice none 0 0).ownBlock ≠ some j) := Lib.hid (fun j hj => ⟨Nat.ne_of_lt (by have := HR.out.blk j hj; rwa [HB1.out] at this), fun e => by cases e⟩)
        have S4 : Hid (SesIs w4 b1 (.slice none 0 0) [] false) := Lib.hid (X3.out.1.on (by rw [HB2.out]; exact X4.out.2))
        go_upto_region 8 with (go_at_call 24; refine (sis_feed S4.out _ zs R4.out N4.out (by have := HN.out; simp; omega)).mono ?_; rintro e w5 ⟨v5, a5, c5, rfl, hs5, hf5, hB5, ho5⟩; rw [feedSt_zero] at *; have X5 := Lib.hid (And.intro hs5 (And.intro hf5 (And.intro hB5 ho5))); clear hs5 hf5 hB5 ho5)
        have hs45 : Hid (w4.heap.size ≤ w5.heap.size) := Lib.hid X5.out.2.1.size
        have T0 : Hid (TwoAt w5 w5 b2 (.slice none 0 0) (.slice none 0 0) zs 0) := Lib.hid
          ⟨by rw [List.take_zero, feed_nil]; exact X4.out.1.same (X5.out.2.1.block b2 hs34.out.2 (by have := hs34.out; omega) (fun e => by cases e)) (fun k hk => by cases hk) hs45.out, Fed.refl _ _ _,
           by rw [List.take_zero, feed_nil, itemsV_nil]; exact World.ownsRow_nil _ _ _ _, fun j hj => (by cases hj), by have := hs34.out; have := hs45.out; omega⟩
        go_wp2
        go_loopg [9, 10] n (fun g s9 s10 wr => ∃ (k : Nat) (v : Value), k + g = n ∧ s10 = .int .i64 k ∧ TwoAt w5 wr b2 v s9 zs k)
        case atStart => exact ⟨0, _, by omega, rfl, T0.out⟩
        case round =>
          obtain ⟨k, v, hkg, rfl, htw⟩ := hrel
          have TW := Lib.hid htw
          clear htw
          cases gk with
          | zero =>
            have hk : ¬ ((k : Int) < (n : Int)) := by omega
            have hzt : zs.take k = zs := List.take_of_length_le (by have := HN.out; omega)
            have TS : Hid (SesIs wr b2 v (feedAll zs).2.1 (feedAll zs).2.2) := Lib.hid (by have := TW.out.ses; rwa [hzt] at this)
            have TO : Hid (wr.ownsRow w5.heap.size 56 19 u9 (feedAll zs).1.length (itemsV (feedAll zs).1)) := Lib.hid (by have := TW.out.one; rwa [hzt] at this)
            have v5b : ∀ j, v5.ownBlock = some j → j < w5.heap.size ∧ j ≠ b2 := fun j hj => by
              refine ⟨(X5.out.1.own.lt j hj).2, fun e => ?_⟩
              rcases X5.out.2.1.new with h | h | ⟨m, h, hm⟩
              · rw [h] at hj; cases hj
              · rw [h] at hj; cases hj
              · rw [h] at hj; cases hj; have := hs34.out; omega
            have SS : Hid (SesIs wr b1 v5 (feedAll zs).2.1 (feedAll zs).2.2) := Lib.hid (X5.out.1.same (TW.out.fed.block b1 (by have := hs34.out; have := hs45.out; omega) (by have := hs34.out; omega) (fun e => by cases e)) (fun j hj => TW.out.fed.block j (v5b j hj).1 (v5b j hj).2 (fun e => by cases e)) TW.out.fed.size)
            have AO : Hid (wr.ownsRow w4.heap.size 56 19 (.slice a5 (feedAll zs).1.length c5) (feedAll zs).1.length (itemsV (feedAll zs).1)) := Lib.hid (ownsRow_same X5.out.2.2.2 (fun j hj => TW.out.fed.block j (X5.out.2.2.2.lt j hj).2 (fun e => by have := (X5.out.2.2.2.lt j hj).1; have := hs34.out; omega) (fun e => by cases e)))
            have FB : Hid (Below w.heap.size w wr) := Lib.hid (((BW4.out.trans (X3.out.2.mono (by rw [← HB1.out]; exact BW4.out.size))).trans (X4.out.2.mono (by rw [← HB2.out]; exact Nat.le_trans BW4.out.size (by rw [HB1.out]; have := hs34.out; rw [HB2.out]; omega)))).trans ((X5.out.2.2.1.mono (by rw [← HB1.out]; exact BW4.out.size)).trans
              (Below.mono (show Below b2 w5 wr from ⟨TW.out.fed.os, TW.out.fed.tape, TW.out.fed.output, TW.out.fed.size, fun j hj => TW.out.fed.block j (by have := hs34.out; have := hs45.out; omega) (by omega) (fun e => by cases e)⟩) (by rw [← HB2.out]; exact Nat.le_trans BW4.out.size (by rw [HB1.out]; have := hs34.out; rw [HB2.out]; omega)))))
            have hsh := feed_shape zs
            have h19 := feed_19 zs
            have hle := feed_items_le zs
            have HSH : Hid ((∀ x ∈ (feedAll zs).1, ∃ (q : ReqD) (e : Int), x = q.cells.toList ++ [.int .i64 e]) ∧ (∀ x ∈ (feedAll zs).1, x.length = 19) ∧ (feedAll zs).1.length ≤ 3000) := Lib.hid ⟨hsh, h19, by have := HN.out; omega⟩
            clear hsh h19 hle hzt v5b X5 TW T0 S4 R4 N4
            generalize feedAll zs = R at *
            obtain ⟨xs, bs, brk⟩ := R
            obtain ⟨a9, c9, hu9⟩ := own_len TO.out
            subst hu9
            obtain ⟨M, hM⟩ : ∃ M, M = xs.length := ⟨_, rfl⟩
            have hM3 : M ≤ 3000 := by have := HSH.out.2.2; rw [hM]; exact this
            have HM := Lib.hid hM
            have TO' : Hid (wr.ownsRow w5.heap.size 56 19 (.slice a9 M c9) M (itemsV xs)) := Lib.hid (by rw [hM]; exact TO.out)
            have AO' : Hid (wr.ownsRow w4.heap.size 56 19 (.slice a5 M c5) M (itemsV xs)) := Lib.hid (by rw [hM]; exact AO.out)
            have hxl : (((xs, bs, brk) : List (List Value) × List UInt8 × Bool).1).length = M := hM.symm
            rw [hxl]
            clear TO AO hM hxl hkg
            obtain ⟨W7, rfl⟩ : ∃ x : World, x = wr := ⟨_, rfl⟩
            go_upto_region 15 with (first
              | (go_at_call 25; (first | (with_reducible refine (sis_broken SS.out).mono ?_) | (with_reducible refine (sis_broken TS.out).mono ?_)); rintro e w' ⟨rfl, rfl⟩)
              | (go_at_call 26; (first | (with_reducible refine (sis_waits SS.out).mono ?_) | (with_reducible refine (sis_waits TS.out).mono ?_)); rintro e w' ⟨rfl, rfl⟩))
            by_cases hM0 : M = 0
            · have HM0 := Lib.hid hM0
              clear hM0
              go_wp2
              go_loopg [11] M (fun g s11 wx => ∃ j : Nat, j + g = M ∧ s11 = .int .i64 j ∧ Below W7.heap.size W7 wx)
              case atStart => exact ⟨0, by omega, rfl, Below.refl _ _⟩
              case round =>
                obtain ⟨j, hjg, rfl, hbx⟩ := hrel
                obtain ⟨wx, rfl⟩ : ∃ x : World, x = wr := ⟨_, rfl⟩
                have BX := Lib.hid hbx
                clear hbx
                cases gk with
                | zero =>
                  have hj : ¬ ((j : Int) < (M : Int)) := by omega
                  clear hjg
                  go_wp2
                  go_ret
                  exact ⟨rfl, FB.out.trans (BX.out.mono FB.out.size)⟩
                | succ g2 =>
                  exfalso
                  have := HM0.out
                  omega
            · obtain ⟨g9, d9, ho9, _, hg9l, hc9, hcells9⟩ := items_cells_n TO'.out HM.out.symm HSH.out.2.1 (by omega)
              obtain ⟨rfl, rfl⟩ : a9 = some ⟨g9, 0, none⟩ ∧ c9 = d9 := by injection ho9 with h1 h2 h3; exact ⟨h1, h3⟩
              obtain ⟨g5, d5, ho5, _, hg5l, hc5, hcells5⟩ := items_cells_n AO'.out HM.out.symm HSH.out.2.1 (by omega)
              obtain ⟨rfl, rfl⟩ : a5 = some ⟨g5, 0, none⟩ ∧ c5 = d5 := by injection ho5 with h1 h2 h3; exact ⟨h1, h3⟩
              have HCE := Lib.hid (And.intro hcells9 (And.intro hcells5 (And.intro hg9l hg5l)))
              clear ho9 ho5 hcells9 hcells5 hM0 hg9l hg5l
              go_wp2
              go_loopg [11] M (fun g s11 wx => ∃ j : Nat, j + g = M ∧ s11 = .int .i64 j ∧ Below W7.heap.size W7 wx)
              case atStart => exact ⟨0, by omega, rfl, Below.refl _ _⟩
              case round =>
                obtain ⟨j, hjg, rfl, hbx⟩ := hrel
                obtain ⟨wx, rfl⟩ : ∃ x : World, x = wr := ⟨_, rfl⟩
                have BX := Lib.hid hbx
                clear hbx
                cases gk with
                | zero =>
                  have hj : ¬ ((j : Int) < (M : Int)) := by omega
                  clear hjg
                  go_wp2
                  go_ret
                  exact ⟨rfl, FB.out.trans (BX.out.mono FB.out.size)⟩
                | succ g2 =>
                  have hj : (j : Int) < (M : Int) := by omega
                  have hjM : j < M := by omega
                  have HJG := Lib.hid hjg
                  clear hjg
                  obtain ⟨x, hx⟩ : ∃ x, xs[j]? = some x := ⟨_, List.getElem?_eq_getElem (by rw [← HM.out]; exact hjM)⟩
                  obtain ⟨q, e, hq⟩ := HSH.out.1 x (List.mem_of_getElem? hx)
                  have hit : (itemA q e).toList = x := by rw [hq]; unfold itemA; simp
                  have hsz : (itemA q e).size = 19 := by unfold itemA; rfl
                  have r5 : ∀ w', Below wx.heap.size wx w' → w'.rangeAt g5 (j * 19) (itemA q e).toList := fun w' hB i u hu => by
                    rw [hit] at hu
                    refine (hB.cell (p := ⟨g5, j * 19 + i, none⟩) ?_).trans ((BX.out.cell (p := ⟨g5, j * 19 + i, none⟩) HCE.out.2.2.2).trans (HCE.out.2.1 j i x u hx hu))
                    exact Nat.lt_of_lt_of_le HCE.out.2.2.2 BX.out.size
                  have r9 : ∀ w', Below wx.heap.size wx w' → w'.rangeAt g9 (j * 19) (itemA q e).toList := fun w' hB i u hu => by
                    rw [hit] at hu
                    refine (hB.cell (p := ⟨g9, j * 19 + i, none⟩) ?_).trans ((BX.out.cell (p := ⟨g9, j * 19 + i, none⟩) HCE.out.2.2.1).trans (HCE.out.1 j i x u hx hu))
                    exact Nat.lt_of_lt_of_le HCE.out.2.2.1 BX.out.size
                  have l5 : ∀ w', Below wx.heap.size wx w' → isRow w' g5 (j * 19) 19 = true := fun w' hB => by have := isRow_range (r5 w' hB); rwa [hsz] at this
                  have m5 : ∀ w', Below wx.heap.size wx w' → rowOf w' g5 (j * 19) 19 = itemA q e := fun w' hB => by have := rowOf_range (r5 w' hB); rwa [hsz] at this
                  have l9 : ∀ w', Below wx.heap.size wx w' → isRow w' g9 (j * 19) 19 = true := fun w' hB => by have := isRow_range (r9 w' hB); rwa [hsz] at this
                  have m9 : ∀ w', Below wx.heap.size wx w' → rowOf w' g9 (j * 19) 19 = itemA q e := fun w' hB => by have := rowOf_range (r9 w' hB); rwa [hsz] at this
                  clear r5 r9 hit hsz hq hx
                  go_upto_region 18 with (fail)
                  refine wp_region_held_drew (S := fun w' => Below wx.heap.size wx w') (by kernel_rfl) (Below.refl _ _).drew (fun hHeld => ?_)
                  have qS := hHeld
                  clear hHeld
                  refine wpAnyH_take (i := 0) (oi := { dst := some 67, op := Op.move (.tmp 8), type := 52, pos := "law.go:101", after := #[], guard := none }) (v := ?_) rfl (by kernel_rfl) (by kernel_rfl) (by kernel_rfl) (fun _ _ _ h => h) (Or.inl ⟨by rfl, ?_⟩) qS ?_
                  rotate_left
                  · intro w hSw
                    (try dsimp only at hSw)
                    go_simp
                    all_goals with_reducible rfl
                  simp only [Act.put, List.setIfInBounds_toArray, List.set_cons_zero, List.set_cons_succ]
                  refine wpAnyH_take (i := 1) (oi := { dst := some 68, op := Op.move (.tmp 11), type := 3, pos := "law.go:101", after := #[], guard := none }) (v := ?_) rfl (by kernel_rfl) (by kernel_rfl) (by kernel_rfl) (fun _ _ _ h => h) (Or.inl ⟨by rfl, ?_⟩) qS ?_
                  rotate_left
                  · intro w hSw
                    (try dsimp only at hSw)
                    go_simp
                    all_goals with_reducible rfl
                  simp only [Act.put, List.setIfInBounds_toArray, List.set_cons_zero, List.set_cons_succ]
                  refine wpAnyH_take (i := 2) (oi := { dst := some 69, op := Op.indexAddr 52 (.tmp 67) (.tmp 68), type := 0, pos := "law.go:101", after := #[{ on := 0, ground := .data }, { on := 1, ground := .data }], guard := none }) (v := ?_) rfl (by kernel_rfl) (by kernel_rfl) (by kernel_rfl) (fun _ _ _ h => h) (Or.inl ⟨by rfl, ?_⟩) qS ?_
                  rotate_left
                  · intro w hSw
                    (try dsimp only at hSw)
                    go_simp
                    all_goals with_reducible rfl
                  simp only [Act.put, List.setIfInBounds_toArray, List.set_cons_zero, List.set_cons_succ]
                  refine wpAnyH_take (i := 3) (oi := { dst := some 70, op := Op.load 56 (.tmp 69), type := 56, pos := "law.go:101", after := #[{ on := 2, ground := .data }], guard := none }) (v := ?_) rfl (by kernel_rfl) (by kernel_rfl) (by kernel_rfl) (fun _ _ _ h => h) (Or.inl ⟨by rfl, ?_⟩) qS ?_
                  rotate_left
                  · intro w hSw
                    (try dsimp only at hSw)
                    go_simp
                    all_goals with_reducible rfl
                  simp only [Act.put, List.setIfInBounds_toArray, List.set_cons_zero, List.set_cons_succ]
                  refine wpAnyH_take (i := 4) (oi := { dst := some 71, op := Op.move (.tmp 9), type := 52, pos := "law.go:101", after := #[], guard := none }) (v := ?_) rfl (by kernel_rfl) (by kernel_rfl) (by kernel_rfl) (fun _ _ _ h => h) (Or.inl ⟨by rfl, ?_⟩) qS ?_
                  rotate_left
                  · intro w hSw
                    (try dsimp only at hSw)
                    go_simp
                    all_goals with_reducible rfl
                  simp only [Act.put, List.setIfInBounds_toArray, List.set_cons_zero, List.set_cons_succ]
                  refine wpAnyH_take (i := 5) (oi := { dst := some 72, op := Op.move (.tmp 11), type := 3, pos := "law.go:101", after := #[], guard := none }) (v := ?_) rfl (by kernel_rfl) (by kernel_rfl) (by kernel_rfl) (fun _ _ _ h => h) (Or.inl ⟨by rfl, ?_⟩) qS ?_
                  rotate_left
                  · intro w hSw
                    (try dsimp only at hSw)
                    go_simp
                    all_goals with_reducible rfl
                  simp only [Act.put, List.setIfInBounds_toArray, List.set_cons_zero, List.set_cons_succ]
                  refine wpAnyH_take (i := 6) (oi := { dst := some 73, op := Op.indexAddr 52 (.tmp 71) (.tmp 72), type := 0, pos := "law.go:101", after := #[{ on := 4, ground := .data }, { on := 5, ground := .data }], guard := none }) (v := ?_) rfl (by kernel_rfl) (by kernel_rfl) (by kernel_rfl) (fun _ _ _ h => h) (Or.inl ⟨by rfl, ?_⟩) qS ?_
                  rotate_left
                  · intro w hSw
                    (try dsimp only at hSw)
                    go_simp
                    all_goals with_reducible rfl
                  simp only [Act.put, List.setIfInBounds_toArray, List.set_cons_zero, List.set_cons_succ]
                  refine wpAnyH_take (i := 7) (oi := { dst := some 74, op := Op.load 56 (.tmp 73), type := 56, pos := "law.go:101", after := #[{ on := 6, ground := .data }], guard := none }) (v := ?_) rfl (by kernel_rfl) (by kernel_rfl) (by kernel_rfl) (fun _ _ _ h => h) (Or.inl ⟨by rfl, ?_⟩) qS ?_
                  rotate_left
                  · intro w hSw
                    (try dsimp only at hSw)
                    go_simp
                    all_goals with_reducible rfl
                  simp only [Act.put, List.setIfInBounds_toArray, List.set_cons_zero, List.set_cons_succ]
                  refine wpAnyH_take (i := 8) (oi := { dst := some 75, op := Op.binOp BinOp.neq 56 (.tmp 70) (.tmp 74) 56, type := 4, pos := "law.go:101", after := #[{ on := 3, ground := .data }, { on := 7, ground := .data }], guard := none }) (v := ?_) rfl (by kernel_rfl) (by kernel_rfl) (by kernel_rfl) (fun _ _ _ h => h) (Or.inl ⟨by rfl, ?_⟩) qS ?_
                  rotate_left
                  · intro w hSw
                    (try dsimp only at hSw)
                    go_simp
                    all_goals with_reducible rfl
                  simp only [Act.put, List.setIfInBounds_toArray, List.set_cons_zero, List.set_cons_succ]
                  refine wpAnyH_done (by kernel_rfl) ?_ _
                  clear l5 m5 l9 m9
                  go_wp2
                  go_roundg g2
                  case measure => omega
                  case rel => exact ⟨j + 1, by have := HJG.out; omega, by first | rfl | go_num, BX.out.trans ((Below.refl _ _).drew.mono BX.out.size)⟩
          | succ g =>
            exfalso
            have := HN0.out
            omega
      · have HG : Hid (gb < W4.heap.size ∧ ∀ (i : Nat) (x : UInt8), zs[i]? = some x → W4.cell? ⟨gb, off + i, none⟩ = some (.int .u8 (x.toNat : Int))) := Lib.hid ⟨hgb, hx⟩
        subst hA
        clear hgb hx
        have tok1 : True := trivial
        go_upto_region 7 with (first
          | (go_at_call 23; have _t := tok1; refine (ses_new _).mono ?_; rintro e w3 hN; have X3 := Lib.hid (And.intro (SesIs.new hN) hN.2.2); obtain ⟨rfl, _⟩ := hN; clear tok1 _t)
          | (go_at_call 23; refine (ses_new _).mono ?_; rintro e w4 hN; have X4 := Lib.hid (And.intro (SesIs.new hN) hN.2.2); obtain ⟨rfl, _⟩ := hN))
        have hs34 : Hid (W4.heap.size < w3.heap.size ∧ w3.heap.size < w4.heap.size) := Lib.hid ⟨X3.out.1.lt, X4.out.1.lt⟩
        generalize hb1 : W4.heap.size = b1 at *
        generalize hb2 : w3.heap.size = b2 at *
        have HB1 := Lib.hid hb1
        have HB2 := Lib.hid hb2
        clear hb1 hb2
        have R4 : Hid (Reads w4 (.slice (some ⟨gb, off, none⟩) n C) zs) := Lib.hid ((HR.out.below (by rw [HB1.out]; exact X3.out.2)).below (by rw [HB2.out]; exact X4.out.2))
        have N4 : Hid (∀ j, (Value.slice (some ⟨gb, off, none⟩) n C).ownBlock = some j → j ≠ b1 ∧ (Value.slice none 0 0).ownBlock ≠ some j) := Lib.hid (fun j hj => ⟨Nat.ne_of_lt (by have := HR.out.blk j hj; rwa [HB1.out] at this), fun e => by cases e⟩)
        have S4 : Hid (SesIs w4 b1 (.slice none 0 0) [] false) := Lib.hid (X3.out.1.on (by rw [HB2.out]; exact X4.out.2))
        go_upto_region 8 with (go_at_call 24; refine (sis_feed S4.out _ zs R4.out N4.out (by have := HN.out; simp; omega)).mono ?_; rintro e w5 ⟨v5, a5, c5, rfl, hs5, hf5, hB5, ho5⟩; rw [feedSt_zero] at *; have X5 := Lib.hid (And.intro hs5 (And.intro hf5 (And.intro hB5 ho5))); clear hs5 hf5 hB5 ho5)
        have hs45 : Hid (w4.heap.size ≤ w5.heap.size) := Lib.hid X5.out.2.1.size
        have T0 : Hid (TwoAt w5 w5 b2 (.slice none 0 0) (.slice none 0 0) zs 0) := Lib.hid
          ⟨by rw [List.take_zero, feed_nil]; exact X4.out.1.same (X5.out.2.1.block b2 hs34.out.2 (by have := hs34.out; omega) (fun e => by cases e)) (fun k hk => by cases hk) hs45.out, Fed.refl _ _ _,
           by rw [List.take_zero, feed_nil, itemsV_nil]; exact World.ownsRow_nil _ _ _ _, fun j hj => (by cases hj), by have := hs34.out; have := hs45.out; omega⟩
        go_wp2
        go_loopg [9, 10] n (fun g s9 s10 wr => ∃ (k : Nat) (v : Value), k + g = n ∧ s10 = .int .i64 k ∧ TwoAt w5 wr b2 v s9 zs k)
        case atStart => exact ⟨0, _, by omega, rfl, T0.out⟩
        case round =>
          obtain ⟨k, v, hkg, rfl, htw⟩ := hrel
          have TW := Lib.hid htw
          clear htw
          cases gk with
          | zero =>
            have hk : ¬ ((k : Int) < (n : Int)) := by omega
            have hzt : zs.take k = zs := List.take_of_length_le (by have := HN.out; omega)
            have TS : Hid (SesIs wr b2 v (feedAll zs).2.1 (feedAll zs).2.2) := Lib.hid (by have := TW.out.ses; rwa [hzt] at this)
            have TO : Hid (wr.ownsRow w5.heap.size 56 19 u9 (feedAll zs).1.length (itemsV (feedAll zs).1)) := Lib.hid (by have := TW.out.one; rwa [hzt] at this)
            have v5b : ∀ j, v5.ownBlock = some j → j < w5.heap.size ∧ j ≠ b2 := fun j hj => by
              refine ⟨(X5.out.1.own.lt j hj).2, fun e => ?_⟩
              rcases X5.out.2.1.new with h | h | ⟨m, h, hm⟩
              · rw [h] at hj; cases hj
              · rw [h] at hj; cases hj
              · rw [h] at hj; cases hj; have := hs34.out; omega
            have SS : Hid (SesIs wr b1 v5 (feedAll zs).2.1 (feedAll zs).2.2) := Lib.hid (X5.out.1.same (TW.out.fed.block b1 (by have := hs34.out; have := hs45.out; omega) (by have := hs34.out; omega) (fun e => by cases e)) (fun j hj => TW.out.fed.block j (v5b j hj).1 (v5b j hj).2 (fun e => by cases e)) TW.out.fed.size)
            have AO : Hid (wr.ownsRow w4.heap.size 56 19 (.slice a5 (feedAll zs).1.length c5) (feedAll zs).1.length (itemsV (feedAll zs).1)) := Lib.hid (ownsRow_same X5.out.2.2.2 (fun j hj => TW.out.fed.block j (X5.out.2.2.2.lt j hj).2 (fun e => by have := (X5.out.2.2.2.lt j hj).1; have := hs34.out; omega) (fun e => by cases e)))
            have FB : Hid (Below w.heap.size w wr) := Lib.hid (((BW4.out.trans (X3.out.2.mono (by rw [← HB1.out]; exact BW4.out.size))).trans (X4.out.2.mono (by rw [← HB2.out]; exact Nat.le_trans BW4.out.size (by rw [HB1.out]; have := hs34.out; rw [HB2.out]; omega)))).trans ((X5.out.2.2.1.mono (by rw [← HB1.out]; exact BW4.out.size)).trans
              (Below.mono (show Below b2 w5 wr from ⟨TW.out.fed.os, TW.out.fed.tape, TW.out.fed.output, TW.out.fed.size, fun j hj => TW.out.fed.block j (by have := hs34.out; have := hs45.out; omega) (by omega) (fun e => by cases e)⟩) (by rw [← HB2.out]; exact Nat.le_trans BW4.out.size (by rw [HB1.out]; have := hs34.out; rw [HB2.out]; omega)))))
            have hsh := feed_shape zs
            have h19 := feed_19 zs
            have hle := feed_items_le zs
            have HSH : Hid ((∀ x ∈ (feedAll zs).1, ∃ (q : ReqD) (e : Int), x = q.cells.toList ++ [.int .i64 e]) ∧ (∀ x ∈ (feedAll zs).1, x.length = 19) ∧ (feedAll zs).1.length ≤ 3000) := Lib.hid ⟨hsh, h19, by have := HN.out; omega⟩
            clear hsh h19 hle hzt v5b X5 TW T0 S4 R4 N4
            generalize feedAll zs = R at *
            obtain ⟨xs, bs, brk⟩ := R
            obtain ⟨a9, c9, hu9⟩ := own_len TO.out
            subst hu9
            obtain ⟨M, hM⟩ : ∃ M, M = xs.length := ⟨_, rfl⟩
            have hM3 : M ≤ 3000 := by have := HSH.out.2.2; rw [hM]; exact this
            have HM := Lib.hid hM
            have TO' : Hid (wr.ownsRow w5.heap.size 56 19 (.slice a9 M c9) M (itemsV xs)) := Lib.hid (by rw [hM]; exact TO.out)
            have AO' : Hid (wr.ownsRow w4.heap.size 56 19 (.slice a5 M c5) M (itemsV xs)) := Lib.hid (by rw [hM]; exact AO.out)
            have hxl : (((xs, bs, brk) : List (List Value) × List UInt8 × Bool).1).length = M := hM.symm
            rw [hxl]
            clear TO AO hM hxl hkg
            obtain ⟨W7, rfl⟩ : ∃ x : World, x = wr := ⟨_, rfl⟩
            go_upto_region 15 with (first
              | (go_at_call 25; (first | (with_reducible refine (sis_broken SS.out).mono ?_) | (with_reducible refine (sis_broken TS.out).mono ?_)); rintro e w' ⟨rfl, rfl⟩)
              | (go_at_call 26; (first | (with_reducible refine (sis_waits SS.out).mono ?_) | (with_reducible refine (sis_waits TS.out).mono ?_)); rintro e w' ⟨rfl, rfl⟩))
            by_cases hM0 : M = 0
            · have HM0 := Lib.hid hM0
              clear hM0
              go_wp2
              go_loopg [11] M (fun g s11 wx => ∃ j : Nat, j + g = M ∧ s11 = .int .i64 j ∧ Below W7.heap.size W7 wx)
              case atStart => exact ⟨0, by omega, rfl, Below.refl _ _⟩
              case round =>
                obtain ⟨j, hjg, rfl, hbx⟩ := hrel
                obtain ⟨wx, rfl⟩ : ∃ x : World, x = wr := ⟨_, rfl⟩
                have BX := Lib.hid hbx
                clear hbx
                cases gk with
                | zero =>
                  have hj : ¬ ((j : Int) < (M : Int)) := by omega
                  clear hjg
                  go_wp2
                  go_ret
                  exact ⟨rfl, FB.out.trans (BX.out.mono FB.out.size)⟩
                | succ g2 =>
                  exfalso
                  have := HM0.out
                  omega
            · obtain ⟨g9, d9, ho9, _, hg9l, hc9, hcells9⟩ := items_cells_n TO'.out HM.out.symm HSH.out.2.1 (by omega)
              obtain ⟨rfl, rfl⟩ : a9 = some ⟨g9, 0, none⟩ ∧ c9 = d9 := by injection ho9 with h1 h2 h3; exact ⟨h1, h3⟩
              obtain ⟨g5, d5, ho5, _, hg5l, hc5, hcells5⟩ := items_cells_n AO'.out HM.out.symm HSH.out.2.1 (by omega)
              obtain ⟨rfl, rfl⟩ : a5 = some ⟨g5, 0, none⟩ ∧ c5 = d5 := by injection ho5 with h1 h2 h3; exact ⟨h1, h3⟩
              have HCE := Lib.hid (And.intro hcells9 (And.intro hcells5 (And.intro hg9l hg5l)))
              clear ho9 ho5 hcells9 hcells5 hM0 hg9l hg5l
              go_wp2
              go_loopg [11] M (fun g s11 wx => ∃ j : Nat, j + g = M ∧ s11 = .int .i64 j ∧ Below W7.heap.size W7 wx)
              case atStart => exact ⟨0, by omega, rfl, Below.refl _ _⟩
              case round =>
                obtain ⟨j, hjg, rfl, hbx⟩ := hrel
                obtain ⟨wx, rfl⟩ : ∃ x : World, x = wr := ⟨_, rfl⟩
                have BX := Lib.hid hbx
                clear hbx
                cases gk with
                | zero =>
                  have hj : ¬ ((j : Int) < (M : Int)) := by omega
                  clear hjg
                  go_wp2
                  go_ret
                  exact ⟨rfl, FB.out.trans (BX.out.mono FB.out.size)⟩
                | succ g2 =>
                  have hj : (j : Int) < (M : Int) := by omega
                  have hjM : j < M := by omega
                  have HJG := Lib.hid hjg
                  clear hjg
                  obtain ⟨x, hx⟩ : ∃ x, xs[j]? = some x := ⟨_, List.getElem?_eq_getElem (by rw [← HM.out]; exact hjM)⟩
                  obtain ⟨q, e, hq⟩ := HSH.out.1 x (List.mem_of_getElem? hx)
                  have hit : (itemA q e).toList = x := by rw [hq]; unfold itemA; simp
                  have hsz : (itemA q e).size = 19 := by unfold itemA; rfl
                  have r5 : ∀ w', Below wx.heap.size wx w' → w'.rangeAt g5 (j * 19) (itemA q e).toList := fun w' hB i u hu => by
                    rw [hit] at hu
                    refine (hB.cell (p := ⟨g5, j * 19 + i, none⟩) ?_).trans ((BX.out.cell (p := ⟨g5, j * 19 + i, none⟩) HCE.out.2.2.2).trans (HCE.out.2.1 j i x u hx hu))
                    exact Nat.lt_of_lt_of_le HCE.out.2.2.2 BX.out.size
                  have r9 : ∀ w', Below wx.heap.size wx w' → w'.rangeAt g9 (j * 19) (itemA q e).toList := fun w' hB i u hu => by
                    rw [hit] at hu
                    refine (hB.cell (p := ⟨g9, j * 19 + i, none⟩) ?_).trans ((BX.out.cell (p := ⟨g9, j * 19 + i, none⟩) HCE.out.2.2.1).trans (HCE.out.1 j i x u hx hu))
                    exact Nat.lt_of_lt_of_le HCE.out.2.2.1 BX.out.size
                  have l5 : ∀ w', Below wx.heap.size wx w' → isRow w' g5 (j * 19) 19 = true := fun w' hB => by have := isRow_range (r5 w' hB); rwa [hsz] at this
                  have m5 : ∀ w', Below wx.heap.size wx w' → rowOf w' g5 (j * 19) 19 = itemA q e := fun w' hB => by have := rowOf_range (r5 w' hB); rwa [hsz] at this
                  have l9 : ∀ w', Below wx.heap.size wx w' → isRow w' g9 (j * 19) 19 = true := fun w' hB => by have := isRow_range (r9 w' hB); rwa [hsz] at this
                  have m9 : ∀ w', Below wx.heap.size wx w' → rowOf w' g9 (j * 19) 19 = itemA q e := fun w' hB => by have := rowOf_range (r9 w' hB); rwa [hsz] at this
                  clear r5 r9 hit hsz hq hx
                  go_upto_region 18 with (fail)
                  refine wp_region_held_drew (S := fun w' => Below wx.heap.size wx w') (by kernel_rfl) (Below.refl _ _).drew (fun hHeld => ?_)
                  have qS := hHeld
                  clear hHeld
                  refine wpAnyH_take (i := 0) (oi := { dst := some 67, op := Op.move (.tmp 8), type := 52, pos := "law.go:101", after := #[], guard := none }) (v := ?_) rfl (by kernel_rfl) (by kernel_rfl) (by kernel_rfl) (fun _ _ _ h => h) (Or.inl ⟨by rfl, ?_⟩) qS ?_
                  rotate_left
                  · intro w hSw
                    (try dsimp only at hSw)
                    go_simp
                    all_goals with_reducible rfl
                  simp only [Act.put, List.setIfInBounds_toArray, List.set_cons_zero, List.set_cons_succ]
                  refine wpAnyH_take (i := 1) (oi := { dst := some 68, op := Op.move (.tmp 11), type := 3, pos := "law.go:101", after := #[], guard := none }) (v := ?_) rfl (by kernel_rfl) (by kernel_rfl) (by kernel_rfl) (fun _ _ _ h => h) (Or.inl ⟨by rfl, ?_⟩) qS ?_
                  rotate_left
                  · intro w hSw
                    (try dsimp only at hSw)
                    go_simp
                    all_goals with_reducible rfl
                  simp only [Act.put, List.setIfInBounds_toArray, List.set_cons_zero, List.set_cons_succ]
                  refine wpAnyH_take (i := 2) (oi := { dst := some 69, op := Op.indexAddr 52 (.tmp 67) (.tmp 68), type := 0, pos := "law.go:101", after := #[{ on := 0, ground := .data }, { on := 1, ground := .data }], guard := none }) (v := ?_) rfl (by kernel_rfl) (by kernel_rfl) (by kernel_rfl) (fun _ _ _ h => h) (Or.inl ⟨by rfl, ?_⟩) qS ?_
                  rotate_left
                  · intro w hSw
                    (try dsimp only at hSw)
                    go_simp
                    all_goals with_reducible rfl
                  simp only [Act.put, List.setIfInBounds_toArray, List.set_cons_zero, List.set_cons_succ]
                  refine wpAnyH_take (i := 3) (oi := { dst := some 70, op := Op.load 56 (.tmp 69), type := 56, pos := "law.go:101", after := #[{ on := 2, ground := .data }], guard := none }) (v := ?_) rfl (by kernel_rfl) (by kernel_rfl) (by kernel_rfl) (fun _ _ _ h => h) (Or.inl ⟨by rfl, ?_⟩) qS ?_
                  rotate_left
                  · intro w hSw
                    (try dsimp only at hSw)
                    go_simp
                    all_goals with_reducible rfl
                  simp only [Act.put, List.setIfInBounds_toArray, List.set_cons_zero, List.set_cons_succ]
                  refine wpAnyH_take (i := 4) (oi := { dst := some 71, op := Op.move (.tmp 9), type := 52, pos := "law.go:101", after := #[], guard := none }) (v := ?_) rfl (by kernel_rfl) (by kernel_rfl) (by kernel_rfl) (fun _ _ _ h => h) (Or.inl ⟨by rfl, ?_⟩) qS ?_
                  rotate_left
                  · intro w hSw
                    (try dsimp only at hSw)
                    go_simp
                    all_goals with_reducible rfl
                  simp only [Act.put, List.setIfInBounds_toArray, List.set_cons_zero, List.set_cons_succ]
                  refine wpAnyH_take (i := 5) (oi := { dst := some 72, op := Op.move (.tmp 11), type := 3, pos := "law.go:101", after := #[], guard := none }) (v := ?_) rfl (by kernel_rfl) (by kernel_rfl) (by kernel_rfl) (fun _ _ _ h => h) (Or.inl ⟨by rfl, ?_⟩) qS ?_
                  rotate_left
                  · intro w hSw
                    (try dsimp only at hSw)
                    go_simp
                    all_goals with_reducible rfl
                  simp only [Act.put, List.setIfInBounds_toArray, List.set_cons_zero, List.set_cons_succ]
                  refine wpAnyH_take (i := 6) (oi := { dst := some 73, op := Op.indexAddr 52 (.tmp 71) (.tmp 72), type := 0, pos := "law.go:101", after := #[{ on := 4, ground := .data }, { on := 5, ground := .data }], guard := none }) (v := ?_) rfl (by kernel_rfl) (by kernel_rfl) (by kernel_rfl) (fun _ _ _ h => h) (Or.inl ⟨by rfl, ?_⟩) qS ?_
                  rotate_left
                  · intro w hSw
                    (try dsimp only at hSw)
                    go_simp
                    all_goals with_reducible rfl
                  simp only [Act.put, List.setIfInBounds_toArray, List.set_cons_zero, List.set_cons_succ]
                  refine wpAnyH_take (i := 7) (oi := { dst := some 74, op := Op.load 56 (.tmp 73), type := 56, pos := "law.go:101", after := #[{ on := 6, ground := .data }], guard := none }) (v := ?_) rfl (by kernel_rfl) (by kernel_rfl) (by kernel_rfl) (fun _ _ _ h => h) (Or.inl ⟨by rfl, ?_⟩) qS ?_
                  rotate_left
                  · intro w hSw
                    (try dsimp only at hSw)
                    go_simp
                    all_goals with_reducible rfl
                  simp only [Act.put, List.setIfInBounds_toArray, List.set_cons_zero, List.set_cons_succ]
                  refine wpAnyH_take (i := 8) (oi := { dst := some 75, op := Op.binOp BinOp.neq 56 (.tmp 70) (.tmp 74) 56, type := 4, pos := "law.go:101", after := #[{ on := 3, ground := .data }, { on := 7, ground := .data }], guard := none }) (v := ?_) rfl (by kernel_rfl) (by kernel_rfl) (by kernel_rfl) (fun _ _ _ h => h) (Or.inl ⟨by rfl, ?_⟩) qS ?_
                  rotate_left
                  · intro w hSw
                    (try dsimp only at hSw)
                    go_simp
                    all_goals with_reducible rfl
                  simp only [Act.put, List.setIfInBounds_toArray, List.set_cons_zero, List.set_cons_succ]
                  refine wpAnyH_done (by kernel_rfl) ?_ _
                  clear l5 m5 l9 m9
                  go_wp2
                  go_roundg g2
                  case measure => omega
                  case rel => exact ⟨j + 1, by have := HJG.out; omega, by first | rfl | go_num, BX.out.trans ((Below.refl _ _).drew.mono BX.out.size)⟩
          | succ g =>
            have hk : (k : Int) < (n : Int) := by omega
            have HKG := Lib.hid hkg
            have hkC1 : ¬ C = k := by omega
            have hkC2 : k ≤ C := by omega
            have hkC3 : k + 1 ≤ C := by omega
            obtain ⟨x, hx⟩ : ∃ x, zs[k]? = some x := ⟨_, List.getElem?_eq_getElem (by have := HN.out; omega)⟩
            have HX := Lib.hid hx
            clear hx hkg
            have hgw : Hid (gb < b1) := Lib.hid HG.out.1
            have CX : Hid (∀ (i : Nat) (y : UInt8), zs[i]? = some y → wr.cell? ⟨gb, off + i, none⟩ = some (.int .u8 (y.toNat : Int))) := Lib.hid (fun i y hi => by
              have h1 := hgw.out
              have h2 := hs34.out
              have h3 := hs45.out
              refine (TW.out.fed.cell (a := ⟨gb, off + i, none⟩) (by show gb < _; omega) (by show gb ≠ b2; omega) (fun e => by cases e)).trans ((X5.out.2.2.1.cell (p := ⟨gb, off + i, none⟩) h1).trans ?_)
              exact (X4.out.2.cell (p := ⟨gb, off + i, none⟩) (by show gb < b2; omega)).trans ((X3.out.2.cell (p := ⟨gb, off + i, none⟩) h1).trans (HG.out.2 i y hi)))
            have RX : Hid (Reads wr (.slice (some ⟨gb, off + k, none⟩) 1 (C - k)) [x]) := Lib.hid (reads_sub1 (n := n) CX.out (by have := hgw.out; have := hs34.out; have := hs45.out; have := TW.out.fed.size; omega) HX.out (by omega))
            have NX : Hid (∀ j, (Value.slice (some ⟨gb, off + k, none⟩) 1 (C - k)).ownBlock = some j → j ≠ b2 ∧ v.ownBlock ≠ some j) := Lib.hid (fun j hj => by
              have h0 : gb = j := Option.some.inj hj
              subst h0
              have h1 := hgw.out
              have h2 := hs34.out
              exact ⟨by omega, fun e => by have := (TW.out.ses.own.lt _ e).1; omega⟩)
            have hrl := feed_rest_le (zs.take k)
            have hil := feed_items_le (zs.take k)
            have htl : (zs.take k).length ≤ 3000 := by have := List.length_take_le k zs; have := HN.out; rw [List.length_take]; omega
            have HLE : Hid ((feedAll (zs.take k)).2.1.length ≤ 3000 ∧ (feedAll (zs.take k)).1.length ≤ 3000) := Lib.hid ⟨by omega, by omega⟩
            have hil2 := feed_items_le (zs.take (k + 1))
            have HLS : Hid ((feedSt (feedAll (zs.take k)).2.1 (feedAll (zs.take k)).2.2 [x]).1.length ≤ 3001) := Lib.hid (by
              rw [feed_step zs k x HX.out, List.length_append] at hil2
              have := List.length_take_le (k + 1) zs
              have := HN.out
              have : (zs.take (k + 1)).length ≤ 3001 := by rw [List.length_take]; omega
              omega)
            have hone := items_one (feedSt_shape (feedAll (zs.take k)).2.1 (feedAll (zs.take k)).2.2 [x])
            have HON := Lib.hid hone
            clear hrl hil htl hil2 hone
            have hb5 : w5.heap.size ≤ wr.heap.size := TW.out.fed.size
            go_wp2_with (first
              | (go_at_call 24; refine (sis_feed TW.out.ses _ [x] RX.out NX.out (by have := HLE.out.1; simp; omega)).mono ?_; rintro e w6 ⟨v6, a6, c6, rfl, hs6, hf6, hB6, ho6⟩; have X6 := Lib.hid (And.intro hs6 (And.intro hf6 ho6)); have O6 : Hid (w6.ownsRow w5.heap.size 56 19 u9 (feedAll (zs.take k)).1.length (itemsV (feedAll (zs.take k)).1)) := Lib.hid (ownsRow_same TW.out.one (fun j hj => hf6.block j (TW.out.one.lt j hj).2 (fun e => by have := (TW.out.one.lt j hj).1; have := TW.out.lt; omega) (TW.out.apart j hj))); have hb6 : w5.heap.size ≤ w6.heap.size := Nat.le_trans hb5 hf6.size; clear hs6 hf6 hB6 ho6)
              | (refine wpList_append_items rfl (.tmp 33) (.tmp 40) rfl rfl w5.heap.size wr.heap.size u9 _ _ rfl O6.out a6 _ c6 _ rfl X6.out.2.2 HON.out (by have := HLE.out.2; have := HLS.out; omega) hb6 ?_; intro v7 w7 ho7 hg7 hn7; have X7 := Lib.hid (TW.out.step HX.out X6.out.1 X6.out.2.1 ho7 hg7 hn7); clear ho7 hg7 hn7))
            go_roundg g
            case measure => omega
            case rel => exact ⟨k + 1, v6, by have := HKG.out; omega, by first | rfl | go_num, X7.out⟩
end Go.Proofs.Ytehkgcmdndehaaa
