/-
  tolllaw19.Bytes, walked: it answers some bytes.
-/
import Derived.Test.YtehkgcmdndehaaaOpenL
import Derived.Test.YtehkgcmdndehaaaRefEA
import Derived.Test.YtehkgcmdndehaaaSesK
import Derived.Deep.DeepCutAuto
import Derived.Deep.CutBlock
namespace Go.Proofs.Ytehkgcmdndehaaa
set_option linter.unusedSimpArgs false
set_option linter.unusedVariables false
open Go.RowKit

/-- append of bytes that read, or of an empty slice wherever it points. -/
theorem run_append_bytesZ (w : World) (base : Nat) (v : Value) (xs : List UInt8) (hown : OwnB w base v xs) (vs : Value) (zs : List UInt8) (hr : ReadsZ w vs zs) (hl : Fits (xs.length + zs.length)) (hbase : base ≤ w.heap.size) (ty : TypeId) (hty : ty = 28) :
    ∃ v' w', (Builtin.append_ #[28, 28] ty #[v, vs]).run Try.prog w = .ok v' w' ∧ OwnB w' base v' (xs ++ zs) ∧ Grew w w' v v' := by
  rcases hr with hr | ⟨rfl, a, c, rfl⟩
  · exact run_append_bytes w base v xs hown vs zs hr hl hbase ty hty
  subst hty
  obtain ⟨i0, hi, hz0, hz1, hz2⟩ := info_parts infoU8
  have hown0 := hown
  unfold OwnB at hown
  refine ⟨v, w, ?_, by simpa using hown0, Grew.refl _ _⟩
  rcases hown.2 with ⟨rfl, h0⟩ | ⟨g, cap, cur, rfl, _, _, hnc, _⟩
  · cases a <;> simp [Builtin.append_, run_underlying Try.underlying28, sizeOf, typeInfo, hi, Builtin.lenOf, Builtin.firstCells, h0, loadCells, loadCellsFrom]
  · cases a <;> simp [Builtin.append_, run_underlying Try.underlying28, sizeOf, typeInfo, hi, Builtin.lenOf, Builtin.firstCells, hnc, storeCells, loadCells, loadCellsFrom]
theorem wpList_append_bytesZ {w : World} {ops : Array Oper} {rest : List Oper} {o : Oper} {a : Act} {Q : Exit → Act → World → Prop} (hgd : o.guard = none) (s x : Operand)
    (ho : o.op = .call { callee := .builtin .append, args := #[s, x], argTypes := #[28, 28] }) (hty : o.type = 28)
    (base : Nat) (v : Value) (xs : List UInt8) (hs : a.eval s = v) (hown : OwnB w base v xs) (vs : Value) (zs : List UInt8) (hx : a.eval x = vs) (hr : ReadsZ w vs zs) (hl : Fits (xs.length + zs.length)) (hbase : base ≤ w.heap.size)
    (h : ∀ v' w', OwnB w' base v' (xs ++ zs) → Grew w w' v v' → wpList Try.prog ops Q rest (a.put o.dst v') w') : wpList Try.prog ops Q (o :: rest) a w :=
  wpList_plain hgd fun _ hK => by
    obtain ⟨v', w', hrun, h2, h3⟩ := run_append_bytesZ w base v xs hown vs zs hr hl hbase o.type hty
    unfold Oper.wp execOp
    simp only [ho, resolve, invoke, builtin, Sem.run_bind, Sem.run_pure, Result.andThen_ok, List.map_toArray, List.map_cons, List.map_nil, hs, hx, hrun]
    exact hK _ _ (h v' w' h2 h3)

/-- EncodeRequest of the document: an error, or bytes. -/
def EncSome (w : World) (e : Ending) (w' : World) : Prop :=
  (∃ err : Int, e = .returned (.tuple #[.slice none 0 0, .int .i64 err]) ∧ ((err : Int) == 0) = false ∧ Below w.heap.size w w') ∨
  (∃ v zs, e = .returned (.tuple #[v, .int .i64 0]) ∧ 0 < zs.length ∧ zs.length ≤ 2000 ∧ OwnB w' w.heap.size v zs ∧ Below w.heap.size w w')
theorem bytes_pos (q : ReqD) : 0 < q.bytes.length := by unfold ReqD.bytes; simp
theorem ref_enc_some (q : ReqD) (w : World) : Calls Try.prog 28 #[.agg q.cells] w (EncSome w) := by
  cases hk : kindB q.kind with
  | false => exact (ref_enc_bad q w hk).mono fun e w' h => .inl ⟨3, h.1, rfl, h.2⟩
  | true =>
    refine (ref_enc_req q w hk).mono fun e w' h => ?_
    unfold RefEncPost at h
    split at h
    · exact .inl ⟨5, h.1, rfl, h.2⟩
    · rename_i hl
      obtain ⟨v, rfl, ho, hB⟩ := h
      exact .inr ⟨v, _, rfl, bytes_pos q, by have := bytes_fit q (by simpa using hl); omega, ho, hB⟩
/-- Frame of the document: an error, or a frame. -/
def FrameSome (w : World) (zs : List UInt8) (e : Ending) (w' : World) : Prop := if zs.length = 0 ∨ 512 < zs.length then EncNo w 5 e w' else EncOk w (frameB zs) e w'
theorem ref_frame_some (v : Value) (zs : List UInt8) (w : World) (hr : ReadsZ w v zs) : Calls Try.prog 19 #[v] w (FrameSome w zs) := by
  by_cases h : zs.length = 0 ∨ 512 < zs.length
  · obtain ⟨a, c, rfl⟩ := hr.len
    exact (ref_frame_no a _ c w h).mono fun e w' h' => by unfold FrameSome; rw [if_pos h]; exact h'
  · exact (ref_frame_ok v zs w (hr.pos (by omega)) (by omega) (by omega)).mono fun e w' h' => by unfold FrameSome; rw [if_neg h]; exact h'
/-- Both, whatever they answer. -/
def EncAny (w : World) (e : Ending) (w' : World) : Prop := ∃ (v : Value) (zs : List UInt8) (err : Int), e = .returned (.tuple #[v, .int .i64 err]) ∧ ReadsZ w' v zs ∧ zs.length ≤ 2000 ∧ Below w.heap.size w w'
theorem enc_any (q : ReqD) (w : World) : Calls Try.prog 28 #[.agg q.cells] w (EncAny w) := by
  refine (ref_enc_some q w).mono fun e w' h => ?_
  rcases h with ⟨err, rfl, _, hB⟩ | ⟨v, zs, rfl, h0, h1, ho, hB⟩
  · exact ⟨_, [], err, rfl, .inl (Reads.nil _), by simp, hB⟩
  · exact ⟨v, zs, 0, rfl, .inl (Reads.of_own ho), h1, hB⟩
def FrameAny (w : World) (zs : List UInt8) (e : Ending) (w' : World) : Prop :=
  ∃ (v : Value) (f : List UInt8) (err : Int), e = .returned (.tuple #[v, .int .i64 err]) ∧ Reads w' v f ∧ f.length ≤ 514 ∧ (err = 0 → f = frameB zs ∧ 1 ≤ zs.length ∧ zs.length ≤ 512) ∧ Below w.heap.size w w'
theorem frame_any (v : Value) (zs : List UInt8) (w : World) (hr : ReadsZ w v zs) : Calls Try.prog 19 #[v] w (FrameAny w zs) := by
  refine (ref_frame_some v zs w hr).mono fun e w' h => ?_
  unfold FrameSome at h
  split at h
  · exact ⟨_, [], 5, h.1, Reads.nil _, by simp, (fun h => by cases h), h.2⟩
  · obtain ⟨v, rfl, ho, hB⟩ := h
    exact ⟨v, frameB zs, 0, rfl, Reads.of_own ho, by rw [frameB_length]; omega, fun _ => ⟨rfl, by omega, by omega⟩, hB⟩
set_option maxHeartbeats 400000 in
set_option maxRecDepth 100000 in
/-- 'within': the rest that is not below 0. -/
theorem l19_within (a n : Int) (w : World) (h0 : 0 < n) (h1 : n ≤ 1000000) (ha : (Lit.int .i64 a).wf = true) :
    Calls Try.prog 27 #[.int .i64 a, .int .i64 n] w fun e w' => e = .returned (.int .i64 (a % n)) ∧ w = w' := by
  have hb := bounds_i64 ha
  obtain ⟨hb1, hb2⟩ := hb
  clear ha
  have hne : (n == 0) = false := by simp; omega
  have e1 : 0 ≤ a % n := Int.emod_nonneg _ (by omega)
  have e2 : a % n < n := Int.emod_lt_of_pos _ h0
  by_cases hpos : 0 ≤ a
  · have t1 : a.tmod n = a % n := Int.tmod_eq_emod_of_nonneg hpos
    go_enter Try.func27, Try.ntmps27
    go_wp2
    go_ret
    exact ⟨rfl, rfl⟩
  · have t1 : a.tmod n = -((-a) % n) := by
      rw [show a = -(-a) by omega, Int.neg_tmod, Int.tmod_eq_emod_of_nonneg (by omega)]; simp
    have P1 := Lib.hid (emod_neg_zero (a := a) (n := n))
    have P2 := Lib.hid (emod_neg_pos (a := a) h0)
    have q1 : 0 ≤ (-a) % n := Int.emod_nonneg _ (by omega)
    have q2 : (-a) % n < n := Int.emod_lt_of_pos _ h0
    by_cases h3 : (0 : Int) < (-a) % n
    · have P := Lib.hid (P2.out h3)
      go_enter Try.func27, Try.ntmps27
      go_wp2
      go_ret
      exact ⟨ret_int P.out.symm, rfl⟩
    · have h4 : (-a) % n = 0 := by omega
      have P := Lib.hid (P1.out h4)
      go_enter Try.func27, Try.ntmps27
      go_wp2
      go_ret
      exact ⟨ret_int (by rw [P.out]), rfl⟩


theorem rangeAt_on {n : Nat} {w w' : World} {b o : Nat} {cs : List Value} (h : w.rangeAt b o cs) (hb : b < n) (hB : Below n w w') : w'.rangeAt b o cs := fun j v hv => (hB.cell (p := ⟨b, o + j, none⟩) hb).trans (h j v hv)
theorem RdReqs.on {w w' : World} {v : Value} {qs : List ReqD} (h : RdReqs w v qs) (hB : Below w.heap.size w w') : RdReqs w' v qs := by
  rcases h with h | ⟨b, off, c, hv, hc, h0, hb, hq⟩
  · exact .inl h
  · exact .inr ⟨b, off, c, hv, hc, h0, Nat.lt_of_lt_of_le hb hB.size, fun i q hi => ⟨rangeAt_on (hq i q hi).1 hb hB, (hq i q hi).2⟩⟩
theorem RdRows.on {w w' : World} {v : Value} {rows : List (List UInt8)} (h : RdRows w v rows) (hB : Below w.heap.size w w') : RdRows w' v rows := by
  rcases h with h | ⟨b, off, c, hv, hc, h0, hb, hq⟩
  · exact .inl h
  · refine .inr ⟨b, off, c, hv, hc, h0, Nat.lt_of_lt_of_le hb hB.size, fun i q hi => ?_⟩
    obtain ⟨vb, h1, h2⟩ := hq i q hi
    exact ⟨vb, (hB.cell (p := ⟨b, off + i, none⟩) hb).trans h1, h2.below hB⟩
def SomeBytes (w : World) (e : Ending) (w' : World) : Prop := ∃ v zs, e = .returned v ∧ OwnB w' w.heap.size v zs ∧ zs.length ≤ 24000 ∧ Below w.heap.size w w'

set_option maxHeartbeats 3200000 in
set_option maxRecDepth 100000 in
theorem sy_nil (A : Option Addr) (m : Nat) (qs : List ReqD) (hm : m = qs.length) (c : Nat) (A2 : Option Addr) (rn : Nat) (rows : List (List UInt8)) (hrn : rn = rows.length) (rc : Nat) (w : World) (hq : qs = []) (hr : True) :
    Calls Try.prog 22 #[.slice A m c, .slice A2 rn rc] w (SomeBytes w) := by
  have HQ := Lib.hid hq
  have HR := Lib.hid hr
  have HMQ := Lib.hid hm
  have HRN := Lib.hid hrn
  clear hq hr hm hrn
  obtain ⟨T, hT⟩ : ∃ T, T = min m 20 := ⟨_, rfl⟩
  have hT1 : T ≤ m := by omega
  have hT2 : T ≤ 20 := by omega
  have HT : Hid (T = m ∨ T = 20) := Lib.hid (by omega)
  clear hT
  go_enter Try.func22, Try.ntmps22
  go_wp2
  go_loopg [5, 6] T (fun g s5 s6 wr => ∃ (k : Nat) (zs : List UInt8), k + g = T ∧ s6 = .int .i64 k ∧ OwnB wr w.heap.size s5 zs ∧ zs.length ≤ 1200 * k ∧ Below w.heap.size w wr)
  case atStart => exact ⟨0, [], by omega, rfl, OwnB.nil _ _, Nat.le_refl _, Below.refl _ _⟩
  case round =>
    obtain ⟨k, zs, hkg, rfl, ho, hl, hB⟩ := hrel
    have HO := Lib.hid (And.intro ho (And.intro hl hB))
    clear ho hl hB
    cases gk with
    | zero =>
      have F : Hid (SomeBytes w (.returned u5) wr) := Lib.hid ⟨u5, zs, rfl, HO.out.1, by have := HO.out.2.1; omega, HO.out.2.2⟩
      by_cases hkm : (k : Int) < (m : Int)
      · have hk2 : ¬ (k : Int) < 20 := by rcases HT.out with h | h <;> omega
        clear hkg
        go_wp2
        go_ret
        exact F.out
      · clear hkg
        go_wp2
        go_ret
        exact F.out
    | succ g =>
      have hkT : k < 20 := by omega
      exfalso
      have h0 := HQ.out
      have h3 := HMQ.out
      rw [h0] at h3
      simp at h3
      omega
set_option maxHeartbeats 3200000 in
set_option maxRecDepth 100000 in
theorem sy_one (b off : Nat) (m : Nat) (qs : List ReqD) (hm : m = qs.length) (c : Nat) (A2 : Option Addr) (rn : Nat) (rows : List (List UInt8)) (hrn : rn = rows.length) (rc : Nat) (w : World) (hq : b < w.heap.size ∧ qs.length ≤ c ∧ ∀ (i : Nat) (q : ReqD), qs[i]? = some q → w.rangeAt b (off + i * 18) q.cells.toList) (hr : rn = 0) :
    Calls Try.prog 22 #[.slice (some ⟨b, off, none⟩) m c, .slice A2 rn rc] w (SomeBytes w) := by
  have HQ := Lib.hid hq
  have HR := Lib.hid hr
  have HMQ := Lib.hid hm
  have HRN := Lib.hid hrn
  clear hq hr hm hrn
  obtain ⟨T, hT⟩ : ∃ T, T = min m 20 := ⟨_, rfl⟩
  have hT1 : T ≤ m := by omega
  have hT2 : T ≤ 20 := by omega
  have HT : Hid (T = m ∨ T = 20) := Lib.hid (by omega)
  clear hT
  go_enter Try.func22, Try.ntmps22
  go_wp2
  go_loopg [5, 6] T (fun g s5 s6 wr => ∃ (k : Nat) (zs : List UInt8), k + g = T ∧ s6 = .int .i64 k ∧ OwnB wr w.heap.size s5 zs ∧ zs.length ≤ 1200 * k ∧ Below w.heap.size w wr)
  case atStart => exact ⟨0, [], by omega, rfl, OwnB.nil _ _, Nat.le_refl _, Below.refl _ _⟩
  case round =>
    obtain ⟨k, zs, hkg, rfl, ho, hl, hB⟩ := hrel
    have HO := Lib.hid (And.intro ho (And.intro hl hB))
    clear ho hl hB
    cases gk with
    | zero =>
      have F : Hid (SomeBytes w (.returned u5) wr) := Lib.hid ⟨u5, zs, rfl, HO.out.1, by have := HO.out.2.1; omega, HO.out.2.2⟩
      by_cases hkm : (k : Int) < (m : Int)
      · have hk2 : ¬ (k : Int) < 20 := by rcases HT.out with h | h <;> omega
        clear hkg
        go_wp2
        go_ret
        exact F.out
      · clear hkg
        go_wp2
        go_ret
        exact F.out
    | succ g =>
      have hkT : k < 20 := by omega
      have hk : (k : Int) < (m : Int) := by omega
      have hk20 : (k : Int) < 20 := by omega
      have hkc : m ≤ c := by have := HQ.out.2.1; have := HMQ.out; omega
      obtain ⟨q, hq⟩ : ∃ q, qs[k]? = some q := ⟨_, List.getElem?_eq_getElem (by have := HMQ.out; omega)⟩
      have RG : Hid (wr.rangeAt b (off + k * 18) q.cells.toList) := Lib.hid (rangeAt_on (HQ.out.2.2 k q hq) HQ.out.1 HO.out.2.2)
      clear hq
      have hkm : k < m := by omega
      have HKG := Lib.hid hkg
      go_upto_region 6 with (first
        | (refine wpList_load_mid rfl 25 (.tmp 26) rfl b (off + k * 18) rfl q.cells.toList _ RG.out Try.underlying25 rfl (by kernel_rfl) ?_)
        | (go_at_call 28; refine (enc_any q _).mono ?_; rintro e w2 ⟨v2, z2, e2, rfl, hr2, hl2, hB2⟩; have X2 := Lib.hid (And.intro hr2 (And.intro hl2 hB2)); clear hr2 hl2 hB2))
      have HB2 : Hid (Below w.heap.size w w2 ∧ OwnB w2 w.heap.size u5 zs) := Lib.hid ⟨HO.out.2.2.trans (X2.out.2.2.mono HO.out.2.2.size), HO.out.1.of_below X2.out.2.2⟩
      cases b2 : (e2 == 0)
      all_goals
        go_upto_if 32 with (fail)
        go_cut [5] (fun s5 wx => ∃ (zc : List UInt8), OwnB wx w.heap.size s5 zc ∧ zc.length ≤ zs.length + 514 ∧ Below w.heap.size w wx)
        case first =>
          first
            | (go_upto_region 8 with (go_at_call 19; refine (frame_any v2 z2 w2 X2.out.1).mono ?_; rintro e w3 ⟨v3, f3, e3, rfl, hr3, hl3, hf3, hB3⟩; have X3 := Lib.hid (And.intro hr3 (And.intro hl3 hB3)); clear hr3 hl3 hf3 hB3)
               have HB3 : Hid (Below w.heap.size w w3 ∧ OwnB w3 w.heap.size u5 zs) := Lib.hid ⟨HB2.out.1.trans (X3.out.2.2.mono HB2.out.1.size), HB2.out.2.of_below X3.out.2.2⟩
               have fit3 : Fits (zs.length + f3.length) := fits_of _ (by have := HO.out.2.1; have := X3.out.2.1; omega)
               have hb3 : w.heap.size ≤ w3.heap.size := HB3.out.1.size
               cases b3 : (e3 == 0)
               · go_wp2
                 go_meet
                 exact ⟨zs, HB3.out.2, by omega, HB3.out.1⟩
               · go_wp2_with (refine wpList_append_bytes _ rfl (.tmp 40) (.tmp 41) rfl rfl w.heap.size u5 zs rfl HB3.out.2 v3 f3 rfl X3.out.1 fit3 hb3 ?_; intro v4 w4 ho4 hg4; have X4 := Lib.hid (And.intro ho4 hg4); clear ho4 hg4)
                 go_meet
                 exact ⟨zs ++ f3, X4.out.1, by rw [List.length_append]; have := X3.out.2.1; omega, X4.out.2.below_ge (fun j hj => (HB3.out.2.lt j hj).1) HB3.out.1 hb3⟩)
            | (go_wp2
               go_meet
               exact ⟨zs, HB2.out.2, by omega, HB2.out.1⟩)
        case rest =>
          obtain ⟨zc, hc1, hc2, hc3⟩ := hcut
          obtain ⟨cv, rfl⟩ : ∃ x : Value, x = u5 := ⟨_, rfl⟩
          have HC : Hid (OwnB wc w.heap.size cv zc ∧ zc.length ≤ 1200 * k + 514 ∧ Below w.heap.size w wc) := Lib.hid ⟨hc1, by have := HO.out.2.1; omega, hc3⟩
          clear hc1 hc2 hc3
          have hr0 : ¬ ((k : Int) < (rn : Int)) := by have := HR.out; omega
          clear hkg
          go_wp2
          go_roundg g
          case measure => omega
          case rel => exact ⟨k + 1, zc, by have := HKG.out; omega, by first | rfl | go_num, HC.out.1, by have := HC.out.2.1; omega, HC.out.2.2⟩
set_option maxHeartbeats 3200000 in
set_option maxRecDepth 100000 in
theorem sy_two (b off : Nat) (m : Nat) (qs : List ReqD) (hm : m = qs.length) (c : Nat) (rb roff : Nat) (rn : Nat) (rows : List (List UInt8)) (hrn : rn = rows.length) (rc : Nat) (w : World) (hq : b < w.heap.size ∧ qs.length ≤ c ∧ ∀ (i : Nat) (q : ReqD), qs[i]? = some q → w.rangeAt b (off + i * 18) q.cells.toList) (hr : rb < w.heap.size ∧ rows.length ≤ rc ∧ ∀ (i : Nat) (zs : List UInt8), rows[i]? = some zs → ∃ vb, w.cell? ⟨rb, roff + i, none⟩ = some vb ∧ ReadsZ w vb zs) :
    Calls Try.prog 22 #[.slice (some ⟨b, off, none⟩) m c, .slice (some ⟨rb, roff, none⟩) rn rc] w (SomeBytes w) := by
  have HQ := Lib.hid hq
  have HR := Lib.hid hr
  have HMQ := Lib.hid hm
  have HRN := Lib.hid hrn
  clear hq hr hm hrn
  obtain ⟨T, hT⟩ : ∃ T, T = min m 20 := ⟨_, rfl⟩
  have hT1 : T ≤ m := by omega
  have hT2 : T ≤ 20 := by omega
  have HT : Hid (T = m ∨ T = 20) := Lib.hid (by omega)
  clear hT
  go_enter Try.func22, Try.ntmps22
  go_wp2
  go_loopg [5, 6] T (fun g s5 s6 wr => ∃ (k : Nat) (zs : List UInt8), k + g = T ∧ s6 = .int .i64 k ∧ OwnB wr w.heap.size s5 zs ∧ zs.length ≤ 1200 * k ∧ Below w.heap.size w wr)
  case atStart => exact ⟨0, [], by omega, rfl, OwnB.nil _ _, Nat.le_refl _, Below.refl _ _⟩
  case round =>
    obtain ⟨k, zs, hkg, rfl, ho, hl, hB⟩ := hrel
    have HO := Lib.hid (And.intro ho (And.intro hl hB))
    clear ho hl hB
    cases gk with
    | zero =>
      have F : Hid (SomeBytes w (.returned u5) wr) := Lib.hid ⟨u5, zs, rfl, HO.out.1, by have := HO.out.2.1; omega, HO.out.2.2⟩
      by_cases hkm : (k : Int) < (m : Int)
      · have hk2 : ¬ (k : Int) < 20 := by rcases HT.out with h | h <;> omega
        clear hkg
        go_wp2
        go_ret
        exact F.out
      · clear hkg
        go_wp2
        go_ret
        exact F.out
    | succ g =>
      have hkT : k < 20 := by omega
      have hk : (k : Int) < (m : Int) := by omega
      have hk20 : (k : Int) < 20 := by omega
      have hkc : m ≤ c := by have := HQ.out.2.1; have := HMQ.out; omega
      obtain ⟨q, hq⟩ : ∃ q, qs[k]? = some q := ⟨_, List.getElem?_eq_getElem (by have := HMQ.out; omega)⟩
      have RG : Hid (wr.rangeAt b (off + k * 18) q.cells.toList) := Lib.hid (rangeAt_on (HQ.out.2.2 k q hq) HQ.out.1 HO.out.2.2)
      clear hq
      have hkm : k < m := by omega
      have HKG := Lib.hid hkg
      go_upto_region 6 with (first
        | (refine wpList_load_mid rfl 25 (.tmp 26) rfl b (off + k * 18) rfl q.cells.toList _ RG.out Try.underlying25 rfl (by kernel_rfl) ?_)
        | (go_at_call 28; refine (enc_any q _).mono ?_; rintro e w2 ⟨v2, z2, e2, rfl, hr2, hl2, hB2⟩; have X2 := Lib.hid (And.intro hr2 (And.intro hl2 hB2)); clear hr2 hl2 hB2))
      have HB2 : Hid (Below w.heap.size w w2 ∧ OwnB w2 w.heap.size u5 zs) := Lib.hid ⟨HO.out.2.2.trans (X2.out.2.2.mono HO.out.2.2.size), HO.out.1.of_below X2.out.2.2⟩
      cases b2 : (e2 == 0)
      all_goals
        go_upto_if 32 with (fail)
        go_cut [5] (fun s5 wx => ∃ (zc : List UInt8), OwnB wx w.heap.size s5 zc ∧ zc.length ≤ zs.length + 514 ∧ Below w.heap.size w wx)
        case first =>
          first
            | (go_upto_region 8 with (go_at_call 19; refine (frame_any v2 z2 w2 X2.out.1).mono ?_; rintro e w3 ⟨v3, f3, e3, rfl, hr3, hl3, hf3, hB3⟩; have X3 := Lib.hid (And.intro hr3 (And.intro hl3 hB3)); clear hr3 hl3 hf3 hB3)
               have HB3 : Hid (Below w.heap.size w w3 ∧ OwnB w3 w.heap.size u5 zs) := Lib.hid ⟨HB2.out.1.trans (X3.out.2.2.mono HB2.out.1.size), HB2.out.2.of_below X3.out.2.2⟩
               have fit3 : Fits (zs.length + f3.length) := fits_of _ (by have := HO.out.2.1; have := X3.out.2.1; omega)
               have hb3 : w.heap.size ≤ w3.heap.size := HB3.out.1.size
               cases b3 : (e3 == 0)
               · go_wp2
                 go_meet
                 exact ⟨zs, HB3.out.2, by omega, HB3.out.1⟩
               · go_wp2_with (refine wpList_append_bytes _ rfl (.tmp 40) (.tmp 41) rfl rfl w.heap.size u5 zs rfl HB3.out.2 v3 f3 rfl X3.out.1 fit3 hb3 ?_; intro v4 w4 ho4 hg4; have X4 := Lib.hid (And.intro ho4 hg4); clear ho4 hg4)
                 go_meet
                 exact ⟨zs ++ f3, X4.out.1, by rw [List.length_append]; have := X3.out.2.1; omega, X4.out.2.below_ge (fun j hj => (HB3.out.2.lt j hj).1) HB3.out.1 hb3⟩)
            | (go_wp2
               go_meet
               exact ⟨zs, HB2.out.2, by omega, HB2.out.1⟩)
        case rest =>
          obtain ⟨zc, hc1, hc2, hc3⟩ := hcut
          obtain ⟨cv, rfl⟩ : ∃ x : Value, x = u5 := ⟨_, rfl⟩
          have HC : Hid (OwnB wc w.heap.size cv zc ∧ zc.length ≤ 1200 * k + 514 ∧ Below w.heap.size w wc) := Lib.hid ⟨hc1, by have := HO.out.2.1; omega, hc3⟩
          clear hc1 hc2 hc3
          by_cases hr0 : (k : Int) < (rn : Int)
          rotate_left
          · clear hkg
            go_wp2
            go_roundg g
            case measure => omega
            case rel => exact ⟨k + 1, zc, by have := HKG.out; omega, by first | rfl | go_num, HC.out.1, by have := HC.out.2.1; omega, HC.out.2.2⟩
          · have hrc : rn ≤ rc := by have := HR.out.2.1; have := HRN.out; omega
            have hrk : k < rn := by omega
            obtain ⟨zr, hzr⟩ : ∃ z, rows[k]? = some z := ⟨_, List.getElem?_eq_getElem (by have := HRN.out; omega)⟩
            obtain ⟨vb, hvb, hrd⟩ := HR.out.2.2 k zr hzr
            obtain ⟨ab, cb, hvb2⟩ := hrd.len
            subst hvb2
            have hcell : wc.cell? ⟨rb, roff + k, none⟩ = some (.slice ab zr.length cb) := (HC.out.2.2.cell (p := ⟨rb, roff + k, none⟩) HR.out.1).trans hvb
            have RZ : Hid (ReadsZ wc (.slice ab zr.length cb) zr) := Lib.hid (hrd.below HC.out.2.2)
            clear hzr hvb hrd
            have HZL : Hid (∃ L, zr.length = L) := Lib.hid ⟨_, rfl⟩
            by_cases h600 : (zr.length : Int) < 600
            rotate_left
            · clear hkg
              go_wp2
              go_roundg g
              case measure => omega
              case rel => exact ⟨k + 1, zc, by have := HKG.out; omega, by first | rfl | go_num, HC.out.1, by have := HC.out.2.1; omega, HC.out.2.2⟩
            · have HZ6 : Hid (zr.length < 600) := Lib.hid (by omega)
              clear hkg
              go_upto_region 12 with (go_at_call 19; refine (frame_any (.slice ab zr.length cb) zr wc RZ.out).mono ?_; rintro e w8 ⟨v8, f8, e8, rfl, hr8, hl8, hf8, hB8⟩; have X8 := Lib.hid (And.intro hr8 (And.intro hl8 hB8)); clear hr8 hl8 hf8 hB8)
              have BB8 : Hid (Below w.heap.size w w8) := Lib.hid (HC.out.2.2.trans (X8.out.2.2.mono HC.out.2.2.size))
              have O8 : Hid (OwnB w8 w.heap.size cv zc) := Lib.hid (HC.out.1.of_below X8.out.2.2)
              have hb8 : w.heap.size ≤ w8.heap.size := BB8.out.size
              have hcell8 : w8.cell? ⟨rb, roff + k, none⟩ = some (.slice ab zr.length cb) := (X8.out.2.2.cell (p := ⟨rb, roff + k, none⟩) (by have := HR.out.1; have := HC.out.2.2.size; show rb < _; omega)).trans hcell
              have RZ8 : Hid (ReadsZ w8 (.slice ab zr.length cb) zr) := Lib.hid (RZ.out.below X8.out.2.2)
              have fitA : Fits (zc.length + f8.length) := fits_of _ (by have := HC.out.2.1; have := X8.out.2.1; omega)
              have fitB : Fits (zc.length + zr.length) := fits_of _ (by have := HC.out.2.1; have := HZ6.out; omega)
              clear hcell
              cases b8 : (e8 == 0)
              all_goals
                by_cases h3 : k % 3 = 0
                · have r1 : ((k : Int) % 3 == 0) = true := by rw [beq_iff_eq]; omega
                  have r2 : ¬ (0 : Int) < (k : Int) % 3 := by omega
                  clear h3
                  go_wp2_with (refine wpList_append_bytesZ rfl (.tmp 76) (.tmp 80) rfl rfl w.heap.size cv zc rfl O8.out (.slice ab zr.length cb) zr rfl RZ8.out fitB hb8 ?_; intro v9 w9 ho9 hg9; have X9 := Lib.hid (And.intro ho9 hg9); clear ho9 hg9)
                  go_roundg g
                  case measure => omega
                  case rel => exact ⟨k + 1, zc ++ zr, by have := HKG.out; omega, by first | rfl | go_num, X9.out.1, by have := HC.out.2.1; have := HZ6.out; rw [List.length_append]; omega, X9.out.2.below_ge (fun j hj => (O8.out.lt j hj).1) BB8.out hb8⟩
                · have r1 : ((k : Int) % 3 == 0) = false := by rw [beq_eq_false_iff_ne]; omega
                  have r2 : (0 : Int) < (k : Int) % 3 := by omega
                  clear h3
                  first
                    | (go_wp2_with (refine wpList_append_bytes _ rfl (.tmp 70) (.tmp 71) rfl rfl w.heap.size cv zc rfl O8.out v8 f8 rfl X8.out.1 fitA hb8 ?_; intro v9 w9 ho9 hg9; have X9 := Lib.hid (And.intro ho9 hg9); clear ho9 hg9)
                       go_roundg g
                       case measure => omega
                       case rel => exact ⟨k + 1, zc ++ f8, by have := HKG.out; omega, by first | rfl | go_num, X9.out.1, by have := HC.out.2.1; have := X8.out.2.1; rw [List.length_append]; omega, X9.out.2.below_ge (fun j hj => (O8.out.lt j hj).1) BB8.out hb8⟩)
                    | (go_wp2
                       go_roundg g
                       case measure => omega
                       case rel => exact ⟨k + 1, zc, by have := HKG.out; omega, by first | rfl | go_num, O8.out, by have := HC.out.2.1; omega, BB8.out⟩)
theorem ses_bytes {w : World} (v0 : Value) (qs : List ReqD) (h0 : RdReqs w v0 qs) (v1 : Value) (rows : List (List UInt8)) (h1 : RdRows w v1 rows) :
    Calls Try.prog 22 #[v0, v1] w (SomeBytes w) := by
  rcases h0 with ⟨rfl, a, c, rfl⟩ | ⟨b, off, c, rfl, hc, _, hb, hq⟩
  · obtain ⟨a2, n2, c2, rfl⟩ : ∃ a2 n2 c2, v1 = .slice a2 n2 c2 := by
      rcases h1 with ⟨_, a, c, rfl⟩ | ⟨b, off, c, rfl, _⟩
      · exact ⟨_, _, _, rfl⟩
      · exact ⟨_, _, _, rfl⟩
    exact sy_nil a 0 [] rfl c a2 n2 (List.replicate n2 []) (by simp) c2 w rfl trivial
  · rcases h1 with ⟨rfl, a2, c2, rfl⟩ | ⟨rb, roff, rc, rfl, hrc, _, hrb, hr⟩
    · exact sy_one b off _ qs rfl c a2 0 [] rfl c2 w ⟨hb, hc, fun i q hi => (hq i q hi).1⟩ rfl
    · exact sy_two b off _ qs rfl c rb roff _ rows rfl rc w ⟨hb, hc, fun i q hi => (hq i q hi).1⟩ ⟨hrb, hrc, hr⟩
end Go.Proofs.Ytehkgcmdndehaaa
