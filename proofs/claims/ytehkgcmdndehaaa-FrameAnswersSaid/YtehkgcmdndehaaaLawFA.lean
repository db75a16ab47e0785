import Derived.Test.YtehkgcmdndehaaaLawFO
import Derived.Deep.MidRow
import Derived.Test.YtehkgcmdndehaaaLdRow
import Derived.Test.YtehkgcmdndehaaaRegW
namespace Go.Proofs.Ytehkgcmdndehaaa
set_option linter.unusedSimpArgs false
set_option linter.unusedVariables false
open Go.RowKit

theorem encAns_le (a : AnsD) (h : a.stmt.name.size ≤ 3000) : (encAns a).length ≤ 1000000 := by
  unfold encAns
  split
  · simp [encInts_length]
  · simp [encStmt, encInts_length, encText_length, StmtD.nums]; omega
theorem size_setCells (b : Nat) : ∀ (vs : List Value) (o : Nat) (w : World), (w.setCells b o vs).heap.size = w.heap.size
  | [], _, _ => rfl
  | v :: r, o, w => by rw [World.setCells, size_setCells b r (o + 1)]; simp [World.setCell]
theorem below_cells {B b : Nat} {a : World} (hb : B ≤ b) : ∀ (vs : List Value) (o : Nat) (w : World), Below B a w → Below B a (w.setCells b o vs)
  | [], _, _, h => h
  | v :: r, o, w, h => below_cells hb r (o + 1) _ (h.setCell hb v)

/-- Where the law stands: the answer's block ab, the bytes vb. -/
structure FAt (w W : World) (ab : Nat) (a : AnsD) (vb : Value) (zs : List UInt8) : Prop where
  below : Below w.heap.size w W
  row : W.rangeAt ab 0 a.cells.toList
  lt : ab < W.heap.size
  rd : Reads W vb zs
theorem rangeAt_below {w w' : World} {b o : Nat} {cs : List Value} (h : w.rangeAt b o cs) (hb : b < w.heap.size) (hB : Below w.heap.size w w') : w'.rangeAt b o cs := fun j v hv => (hB.cell (p := ⟨b, o + j, none⟩) hb).trans (h j v hv)
theorem FAt.on {w W W' : World} {ab : Nat} {a : AnsD} {vb : Value} {zs : List UInt8} (h : FAt w W ab a vb zs) (hB : Below W.heap.size W W') : FAt w W' ab a vb zs :=
  ⟨h.below.trans (hB.mono h.below.size), rangeAt_below h.row h.lt hB, Nat.lt_of_lt_of_le h.lt hB.size, h.rd.below hB⟩

/-- The answer that the law goes on with. -/
def AnsD.norm (a : AnsD) : AnsD := if a.stmt.term = 0 then { a with stmt := stmtZ } else a

theorem ld_ans (ρ : Operand → Value) (dst : Option Tmp) (x : Operand) (t : TypeId) (pos : String) (after : Array Edge) (guard : Option (Nat × Bool)) (w : World) (h : okPtr 13 (ρ x) w = true) :
    (execOp ρ { dst, op := .load 38 x, type := t, pos, after, guard }).run Try.prog w = .ok (.value (.agg (ptrRow 13 (ρ x) w))) w :=
  run_ex_load ρ dst x t pos after guard w _ 13 _ Try.underlying38 rfl (by kernel_rfl) h
attribute [local go_sem ↓] ld_ans

set_option maxHeartbeats 3200000 in
set_option maxRecDepth 100000 in
theorem frameAnswers_in (a : AnsD) (vb : Value) (zs : List UInt8) (w : World) (hz : Reads w vb zs) (hf : AnsFit a.norm) (h0 : 0 ≤ a.err) (h1 : a.err ≤ 255) (h2 : a.stmt.name.size ≤ 255) (h3 : zs.length ≤ 2000) :
    Calls Try.prog 5 #[.agg a.cells, vb] w (TrueBelow w) := by
  obtain ⟨a1, c1, rfl⟩ := hz.len
  have b0 : decide (a.err < 0) = false := by simpa using h0
  have b1 : decide (255 < a.err) = false := by simp; omega
  have b2 : decide (255 < (a.stmt.name.size : Int)) = false := by simp; omega
  have b3 : decide (2000 < (zs.length : Int)) = false := by simp; omega
  have hfa : ∀ w1, Below (w.heap.size + 1) (w.alloc (.cells a.cells 38)) w1 → FAt w w1 w.heap.size a (.slice a1 zs.length c1) zs := fun w1 hB =>
    ⟨(below_alloc _ _).trans (hB.mono (by simp)), fun j u hj => by
      rw [Nat.zero_add]
      refine (hB.cell (p := ⟨w.heap.size, j, none⟩) (by simp)).trans ?_
      rw [World.cell?_alloc_at _ _ _ _ rfl]; simpa using hj, Nat.lt_of_lt_of_le (by simp) hB.size, (hz.below (below_alloc _ _)).below (by simpa using hB)⟩
  have hfr : ∀ w1, Below (w.heap.size + 1) (w.alloc (.cells a.cells 38)) w1 → ∀ o, w1.frozen? ⟨w.heap.size, o, none⟩ = false := fun w1 hB o =>
    (hB.frozen (p := ⟨w.heap.size, o, none⟩) (by simp)).trans (by rw [World.frozen?_alloc_at _ _ _ _ rfl])
  have HFA := Lib.hid hfa
  have HFR := Lib.hid hfr
  have HF := Lib.hid hf
  have HZ := Lib.hid hz
  have HNM : Hid (a.norm.stmt.name.size ≤ 3000) := Lib.hid (by have := hf.2.2.2.1; omega)
  clear hfa hfr hf hz
  go_enter Try.func5, Try.ntmps5
  go_wp2_with fail
  refine (l18_known _).mono ?_
  rintro e w1 ⟨rfl, hB1⟩
  have X1 := Lib.hid (HFA.out w1 (by simpa using hB1))
  have XF := Lib.hid (HFR.out w1 (by simpa using hB1))
  clear hB1 HFA HFR
  have hab : Hid (w.heap.size < w1.heap.size) := Lib.hid X1.out.lt
  generalize hb : w.heap.size = ab at *
  have HAB := Lib.hid hb
  clear hb
  have k0 : w1.cell? ⟨ab, 0, none⟩ = some (.int .i64 a.err) := X1.out.row 0 _ rfl
  have k4 : w1.cell? ⟨ab, 4, none⟩ = some (.string a.stmt.name) := X1.out.row 4 _ rfl
  have k5 : w1.cell? ⟨ab, 5, none⟩ = some (.int .i64 a.stmt.term) := X1.out.row 5 _ rfl
  go_upto_region 5 with (fail)
  have hnorm : a.norm = if a.stmt.term = 0 then { a with stmt := stmtZ } else a := rfl
  generalize a.norm = an at *
  have HAN := Lib.hid hnorm
  clear hnorm
  by_cases ht : a.stmt.term = 0
  case' pos =>
    have hb0 : (a.stmt.term == 0) = true := by rw [ht]; rfl
    have han : an = { a with stmt := stmtZ } := by rw [HAN.out, if_pos ht]
    have HA2 := Lib.hid han
    clear ht han HAN
    have hth : Hid (w1.there ab 4 9) := Lib.hid (fun j hj => by
      refine ⟨?_, XF.out _⟩
      have hj' : 4 + j < a.cells.toList.length := by show 4 + j < 13; omega
      have := X1.out.row (4 + j) _ (List.getElem?_eq_getElem hj')
      rw [Nat.zero_add] at this
      rw [this]; rfl)
    go_upto_region 7 with (refine wpList_store_mid rfl 36 (.tmp 43) (.tmp 42) rfl ab 4 stmtZ.cells rfl rfl hth.out (by kernel_rfl) (stmt_one_cells _) ?_)
    have X7 : Hid (FAt w (w1.setCells ab 4 stmtZ.cells.toList) ab an (.slice a1 zs.length c1) zs) := Lib.hid (by
      have hB := below_cells (b := ab) (by rw [HAB.out]; exact Nat.le_refl _) stmtZ.cells.toList 4 w1 X1.out.below
      refine ⟨hB, fun j u hj => ?_, ?_, HZ.out.below hB⟩
      · rw [HA2.out] at hj
        by_cases h4 : j < 4
        · rw [World.cell?_setCells_out ab _ 4 w1 ⟨ab, 0 + j, none⟩ (fun _ _ => .inl (by show 0 + j < 4; omega))]
          refine X1.out.row j u ?_
          rw [← hj]
          match j, h4 with
          | 0, _ => rfl
          | 1, _ => rfl
          | 2, _ => rfl
          | 3, _ => rfl
        · have e : ({ a with stmt := stmtZ } : AnsD).cells.toList = [.int .i64 a.err, .int .i64 a.left, .int .i64 a.over, .int .i64 a.n] ++ stmtZ.cells.toList := rfl
          rw [e, List.getElem?_append_right (by simp; omega)] at hj
          have := World.rangeAt_setCells_same w1 ab 4 stmtZ.cells.toList hth.out (j - 4) u (by simpa using hj)
          rwa [show 4 + (j - 4) = 0 + j by omega] at this
      · rw [size_setCells]; exact hab.out)
    clear hth XF HA2 hb0 k0 k4 k5
    generalize w1.setCells ab 4 stmtZ.cells.toList = W7 at *
    go_simp
  case' neg =>
    have hb0 : (a.stmt.term == 0) = false := by simp [ht]
    have han : an = a := by rw [HAN.out, if_neg ht]
    subst han
    go_upto_region 7 with (fail)
    have X7 := X1
    clear XF hb0 k0 k4 k5 ht
    generalize w1 = W7 at *
  all_goals
    clear b0 b1 b2 b3 h0 h1 h2
    go_step
    refine wpList_load_mid rfl 38 (.tmp 2) rfl ab 0 rfl an.cells.toList _ X7.out.row Try.underlying38 rfl (by kernel_rfl) ?_
    go_upto_region 8 with (go_at_call 16; refine (fr_enc_ans an W7 HNM.out).mono ?_; rintro e w8 ⟨v5, rfl, ho, hB8⟩; have X8 := Lib.hid (X7.out.on hB8); have R5 := Lib.hid (Reads.of_own ho); clear ho hB8)
    have c17 : Hid (Calls Try.prog 17 #[v5] w8 fun e w' => e = .returned (.tuple #[.agg an.cells, .int .i64 0]) ∧ Below w8.heap.size w8 w') := Lib.hid (by
      have := fr_parse_ans v5 (encAns an) w8 R5.out (encAns_le an HNM.out)
      rw [parse_enc an HF.out] at this
      exact this)
    go_upto_region 9 with (first | (go_at_call 17; refine c17.out.mono ?_; rintro e w9 ⟨rfl, hB9⟩; have X9 := Lib.hid (X8.out.on hB9); have R9 := Lib.hid (R5.out.below hB9); clear hB9) | (refine wpList_store_row rfl 38 (.tmp 6) (.tmp 49) rfl w9.heap.size an.cells rfl rfl 38 ansZ.cells (heap_alloc_new _ _) (by kernel_rfl) rfl (ans_one_cells _) ?_))
    change Code.wp _ _ _ _ ((w9.alloc (.cells ansZ.cells 38)).setRow w9.heap.size an.cells)
    have hm := row_made w9 an.cells ansZ.cells 38
    generalize (w9.alloc (.cells ansZ.cells 38)).setRow w9.heap.size an.cells = W9 at *
    have X9b := Lib.hid (X9.out.on hm.1)
    have R9b := Lib.hid (R9.out.below hm.1)
    have Z9 : Hid (Reads W9 (.slice a1 zs.length c1) zs) := Lib.hid X9b.out.rd
    generalize w9.heap.size = yb at *
    have Y := Lib.hid hm
    clear hm
    go_upto_region 10 with (first
      | (at_builtin; refine wpList_append_bytes _ rfl (.tmp 52) (.tmp 53) rfl rfl W9.heap.size (.slice (some ⟨W9.heap.size, 0, none⟩) 0 0) [] rfl ownB_empty (.slice a1 zs.length c1) zs rfl (Z9.out.below (below_alloc _ _)) (fits_of _ (by simp; omega)) (by simp) ?_
         intro vc wa ho hg
         have A10 : Hid (Reads wa vc zs ∧ Below W9.heap.size W9 wa) := Lib.hid ⟨by simpa using Reads.of_own ho, hg.below_ge (fun k hk => by simp [Value.ownBlock] at hk; omega) (below_alloc _ _) (by simp)⟩
         clear ho hg)
      | (go_at_call 17; refine (fr_parse_ans vc zs wa A10.out.1 (by omega)).mono ?_; rintro e w10 ⟨rfl, hB10⟩; have B10 := Lib.hid hB10; clear hB10)
      | (refine wpList_store_row rfl 38 (.tmp 8) (.tmp 56) rfl w10.heap.size (parseAns zs).1.cells rfl rfl 38 ansZ.cells (heap_alloc_new _ _) (by kernel_rfl) rfl (ans_one_cells _) ?_))
    change Code.wp _ _ _ _ ((w10.alloc (.cells ansZ.cells 38)).setRow w10.heap.size (parseAns zs).1.cells)
    have hm := row_made w10 (parseAns zs).1.cells ansZ.cells 38
    generalize (w10.alloc (.cells ansZ.cells 38)).setRow w10.heap.size (parseAns zs).1.cells = W10 at *
    have P10 : Hid (Below W9.heap.size W9 W10 ∧ W9.heap.size ≤ w10.heap.size) := Lib.hid (by
      have h1 := A10.out.2
      have h2 := B10.out
      have e : W9.heap.size ≤ w10.heap.size := Nat.le_trans h1.size h2.size
      exact ⟨(h1.trans (h2.mono h1.size)).trans (hm.1.mono e), e⟩)
    generalize w10.heap.size = pb at *
    have PP := Lib.hid hm
    clear hm
    have Z10 : Hid (Reads W10 (.slice a1 zs.length c1) zs) := Lib.hid (Z9.out.below P10.out.1)
    go_upto_region 11 with (first
      | (go_at_call 18; refine (ref_parse_ans (.slice a1 zs.length c1) zs W10 Z10.out (by omega)).mono ?_; rintro e w11 ⟨rfl, hB11⟩; have B11 := Lib.hid hB11; clear hB11)
      | (refine wpList_store_row rfl 38 (.tmp 10) (.tmp 61) rfl w11.heap.size (parseAns zs).1.cells rfl rfl 38 ansZ.cells (heap_alloc_new _ _) (by kernel_rfl) rfl (ans_one_cells _) ?_))
    change Code.wp _ _ _ _ ((w11.alloc (.cells ansZ.cells 38)).setRow w11.heap.size (parseAns zs).1.cells)
    have hm := row_made w11 (parseAns zs).1.cells ansZ.cells 38
    generalize (w11.alloc (.cells ansZ.cells 38)).setRow w11.heap.size (parseAns zs).1.cells = W11 at *
    have P11 : Hid (Below W10.heap.size W10 W11 ∧ W10.heap.size ≤ w11.heap.size) := Lib.hid (by
      have e : W10.heap.size ≤ w11.heap.size := B11.out.size
      exact ⟨B11.out.trans (hm.1.mono e), e⟩)
    generalize w11.heap.size = qb at *
    have QQ := Lib.hid hm
    clear hm
    have Z11 : Hid (Reads W11 (.slice a1 zs.length c1) zs) := Lib.hid (Z10.out.below P11.out.1)
    go_upto_region 12 with (go_at_call 15; refine (fr_frame (.slice a1 zs.length c1) zs W11 Z11.out).mono ?_; rintro e w12 ⟨v12, rfl, hr12, hB12⟩; have B12 := Lib.hid (And.intro hr12 hB12); clear hr12 hB12)
    have Z12 : Hid (Reads w12 (.slice a1 zs.length c1) zs) := Lib.hid (Z11.out.below B12.out.2)
    go_upto_region 13 with (go_at_call 19; refine (ref_frame (.slice a1 zs.length c1) zs w12 Z12.out).mono ?_; rintro e w13 ⟨v14, rfl, hr13, hB13⟩; have B13 := Lib.hid (And.intro hr13 hB13); clear hr13 hB13)
    have BU11 : Hid (Below W11.heap.size W11 w13) := Lib.hid (B12.out.2.trans (B13.out.2.mono B12.out.2.size))
    have BU10 : Hid (Below W10.heap.size W10 w13) := Lib.hid (P11.out.1.trans (BU11.out.mono P11.out.1.size))
    have BU9 : Hid (Below W9.heap.size W9 w13) := Lib.hid (P10.out.1.trans (BU10.out.mono P10.out.1.size))
    have XU := Lib.hid (X9b.out.on BU9.out)
    have RU := Lib.hid (R9b.out.below BU9.out)
    have YU : Hid (yb < w13.heap.size ∧ w13.rangeAt yb 0 an.cells.toList) := Lib.hid ⟨by have := Y.out.2.2; have := BU9.out.size; omega, rangeAt_below (fun j u hj => by rw [Nat.zero_add, cell_of_row _ _ _ _ _ _ Y.out.2.1]; simpa using hj) (by have := Y.out.2.2; omega) BU9.out⟩
    have PU : Hid (pb < w13.heap.size ∧ w13.rangeAt pb 0 (parseAns zs).1.cells.toList) := Lib.hid ⟨by have := PP.out.2.2; have := BU10.out.size; omega, rangeAt_below (fun j u hj => by rw [Nat.zero_add, cell_of_row _ _ _ _ _ _ PP.out.2.1]; simpa using hj) (by have := PP.out.2.2; omega) BU10.out⟩
    have QU : Hid (qb < w13.heap.size ∧ w13.rangeAt qb 0 (parseAns zs).1.cells.toList) := Lib.hid ⟨by have := QQ.out.2.2; have := BU11.out.size; omega, rangeAt_below (fun j u hj => by rw [Nat.zero_add, cell_of_row _ _ _ _ _ _ QQ.out.2.1]; simpa using hj) (by have := QQ.out.2.2; omega) BU11.out⟩
    have R12 := Lib.hid (B12.out.1.below B13.out.2)
    have R13 := Lib.hid B13.out.1
    have ZU := Lib.hid XU.out.rd
    have hname := parse_name zs
    have hdec := parse_dec zs
    have HNP : Hid ((parseAns zs).1.stmt.name.size ≤ 3000) := Lib.hid (by omega)
    clear X8 R5 c17 X9 R9 X9b R9b Z9 A10 B10 P10 PP Z10 B11 P11 QQ Z11 B12 Z12 B13 Y BU9 BU10 BU11 hname X7
    generalize parseAns zs = pp at *
    obtain ⟨pa, pe⟩ := pp
    generalize framed zs = fp at *
    obtain ⟨fb, fe⟩ := fp
    have lo : ∀ (w' : World) (blk : Nat) (a : AnsD), Below w13.heap.size w13 w' → blk < w13.heap.size → w13.rangeAt blk 0 a.cells.toList → isRow w' blk 0 13 = true ∧ rowOf w' blk 0 13 = a.cells := fun w' blk a hB hb hr =>
      ⟨isRow_range (cs := a.cells) (rangeAt_below hr hb hB), rowOf_range (cs := a.cells) (rangeAt_below hr hb hB)⟩
    have co : ∀ (w' : World) (v : Value) (bs : List UInt8), Below w13.heap.size w13 w' → Reads w13 v bs → (convert 28 9 v).run Try.prog w' = .ok (.string (strB bs)) w' := fun w' v bs hB hr =>
      run_string_of _ _ _ Try.underlying28 Try.underlying5 Try.underlying9 (hr.below hB)
    have l2 : ∀ w', Below w13.heap.size w13 w' → isRow w' ab 0 13 = true := fun w' hB => (lo w' ab an hB XU.out.lt XU.out.row).1
    have m2 : ∀ w', Below w13.heap.size w13 w' → rowOf w' ab 0 13 = an.cells := fun w' hB => (lo w' ab an hB XU.out.lt XU.out.row).2
    have l6 : ∀ w', Below w13.heap.size w13 w' → isRow w' yb 0 13 = true := fun w' hB => (lo w' yb an hB YU.out.1 YU.out.2).1
    have m6 : ∀ w', Below w13.heap.size w13 w' → rowOf w' yb 0 13 = an.cells := fun w' hB => (lo w' yb an hB YU.out.1 YU.out.2).2
    have l8 : ∀ w', Below w13.heap.size w13 w' → isRow w' pb 0 13 = true := fun w' hB => (lo w' pb pa hB PU.out.1 PU.out.2).1
    have m8 : ∀ w', Below w13.heap.size w13 w' → rowOf w' pb 0 13 = pa.cells := fun w' hB => (lo w' pb pa hB PU.out.1 PU.out.2).2
    have l10 : ∀ w', Below w13.heap.size w13 w' → isRow w' qb 0 13 = true := fun w' hB => (lo w' qb pa hB QU.out.1 QU.out.2).1
    have m10 : ∀ w', Below w13.heap.size w13 w' → rowOf w' qb 0 13 = pa.cells := fun w' hB => (lo w' qb pa hB QU.out.1 QU.out.2).2
    have c5 : ∀ w', Below w13.heap.size w13 w' → (convert 28 9 v5).run Try.prog w' = .ok (.string (strB (encAns an))) w' := fun w' hB => co w' v5 _ hB RU.out
    have cb : ∀ w', Below w13.heap.size w13 w' → (convert 28 9 (.slice a1 zs.length c1)).run Try.prog w' = .ok (.string (strB zs)) w' := fun w' hB => co w' _ _ hB ZU.out
    have c12 : ∀ w', Below w13.heap.size w13 w' → (convert 28 9 v12).run Try.prog w' = .ok (.string (strB fb)) w' := fun w' hB => co w' _ _ hB R12.out
    have c14 : ∀ w', Below w13.heap.size w13 w' → (convert 28 9 v14).run Try.prog w' = .ok (.string (strB fb)) w' := fun w' hB => co w' _ _ hB R13.out
    have ea : ∀ (a : AnsD) (w' : World), (binOp .eql 38 (.agg a.cells) (.agg a.cells)).run Try.prog w' = .ok (.bool true) w' := eql_ans
    have HDEC := Lib.hid hdec
    have HBW := Lib.hid XU.out.below
    clear lo co XU RU YU PU QU R12 R13 ZU hdec hab HZ
    by_cases hpe : pe = 0
    · have hq0 : (pe != 0) = false := by simp [hpe]
      have HE : Hid (encAns pa = zs) := Lib.hid (HDEC.out hpe)
      clear hpe
      refine wp_region_held_drew (S := fun w' => Below w13.heap.size w13 w') (by kernel_rfl) (Below.refl _ _).drew (fun hHeld => ?_)
      have qS := hHeld
      clear hHeld
      refine wpAnyH_take (i := 0) (oi := { dst := some 73, op := Op.move (.tmp 5), type := 28, pos := "law.go:75", after := #[], guard := none }) (v := ?_) rfl (by kernel_rfl) (by kernel_rfl) (by kernel_rfl) (fun _ _ _ h => h) (Or.inl ⟨by rfl, ?_⟩) qS ?_
      rotate_left
      · intro w hSw
        (try dsimp only at hSw)
        go_simp
        all_goals with_reducible rfl
      simp only [Act.put, List.setIfInBounds_toArray, List.set_cons_zero, List.set_cons_succ]
      refine wpAnyH_take (i := 1) (oi := { dst := some 74, op := Op.convert 28 9 (.tmp 73), type := 9, pos := "law.go:75", after := #[{ on := 0, ground := .data }], guard := none }) (v := ?_) rfl (by kernel_rfl) (by kernel_rfl) (by kernel_rfl) (fun _ _ _ h => h) (Or.inl ⟨by rfl, ?_⟩) qS ?_
      rotate_left
      · intro w hSw
        (try dsimp only at hSw)
        go_simp
        all_goals with_reducible rfl
      simp only [Act.put, List.setIfInBounds_toArray, List.set_cons_zero, List.set_cons_succ]
      refine wpAnyH_take (i := 2) (oi := { dst := some 75, op := Op.load 38 (.tmp 2), type := 38, pos := "law.go:75", after := #[], guard := none }) (v := ?_) rfl (by kernel_rfl) (by kernel_rfl) (by kernel_rfl) (fun _ _ _ h => h) (Or.inl ⟨by rfl, ?_⟩) qS ?_
      rotate_left
      · intro w hSw
        (try dsimp only at hSw)
        go_simp
        all_goals with_reducible rfl
      simp only [Act.put, List.setIfInBounds_toArray, List.set_cons_zero, List.set_cons_succ]
      refine H_one (i := 3) (o := { dst := some 76, op := Op.call { callee := Callee.value (.func 20), args := #[.tmp 75], argTypes := #[38] }, type := 28, pos := "law.go:75", after := #[{ on := 2, ground := .data }], guard := none }) (by kernel_rfl) rfl (fun K hK => ?_)
      go_simp
      go_at_call 20
      refine (ref_enc_ans an _ HNM.out).mono ?_
      rintro e wA ⟨vA, rfl, ho, hB⟩
      have pvA : Below w13.heap.size w13 wA := qS.trans hB
      have hcA : ∀ w', Below wA.heap.size wA w' → (convert 28 9 vA).run Try.prog w' = .ok (.string (strB (encAns an))) w' := fun w' hB' => by
        have := run_string_of 28 9 5 Try.underlying28 Try.underlying5 Try.underlying9 ((Reads.of_own ho).below hB')
        exact this
      clear ho hB
      go_simp
      refine hK.out _ _ pvA ?_
      clear hK K
      (try simp only [Act.put, List.setIfInBounds_toArray, List.set_cons_zero, List.set_cons_succ])
      refine H_weaken (S2 := fun w' => Below w13.heap.size w13 w' ∧ Below wA.heap.size wA w') (fun w h => h.1) _ _ _ _ ?_
      replace qS := (⟨pvA, Below.refl _ _⟩ : Below w13.heap.size w13 wA ∧ Below wA.heap.size wA wA)
      refine wpAnyH_take (i := 4) (oi := { dst := some 77, op := Op.convert 28 9 (.tmp 76), type := 9, pos := "law.go:75", after := #[{ on := 3, ground := .data }], guard := none }) (v := ?_) rfl (by kernel_rfl) (by kernel_rfl) (by kernel_rfl) (fun _ _ _ h => h) (Or.inl ⟨by rfl, ?_⟩) qS ?_
      rotate_left
      · intro w hSw
        (try dsimp only at hSw)
        go_simp
        all_goals with_reducible rfl
      simp only [Act.put, List.setIfInBounds_toArray, List.set_cons_zero, List.set_cons_succ]
      refine wpAnyH_take (i := 5) (oi := { dst := some 78, op := Op.binOp BinOp.eql 9 (.tmp 74) (.tmp 77) 9, type := 4, pos := "law.go:75", after := #[{ on := 1, ground := .data }, { on := 4, ground := .data }], guard := none }) (v := ?_) rfl (by kernel_rfl) (by kernel_rfl) (by kernel_rfl) (fun _ _ _ h => h) (Or.inl ⟨by rfl, ?_⟩) qS ?_
      rotate_left
      · intro w hSw
        (try dsimp only at hSw)
        go_simp
        all_goals with_reducible rfl
      simp only [Act.put, List.setIfInBounds_toArray, List.set_cons_zero, List.set_cons_succ]
      refine wpAnyH_take (i := 6) (oi := { dst := some 79, op := Op.move (.tmp 78), type := 4, pos := "law.go:75", after := #[{ on := 5, ground := .data }, { on := 3, ground := .chain }], guard := none }) (v := ?_) rfl (by kernel_rfl) (by kernel_rfl) (by kernel_rfl) (fun _ _ _ h => h) (Or.inl ⟨by rfl, ?_⟩) qS ?_
      rotate_left
      · intro w hSw
        (try dsimp only at hSw)
        go_simp
        all_goals with_reducible rfl
      simp only [Act.put, List.setIfInBounds_toArray, List.set_cons_zero, List.set_cons_succ]
      refine wpAnyH_take (i := 7) (oi := { dst := some 80, op := Op.move (.tmp 7), type := 29, pos := "law.go:75", after := #[{ on := 6, ground := .guard }], guard := some (6, true) }) (v := ?_) rfl (by kernel_rfl) (by kernel_rfl) (by kernel_rfl) (fun _ _ _ h => h) (Or.inl ⟨by rfl, ?_⟩) qS ?_
      rotate_left
      · intro w hSw
        (try dsimp only at hSw)
        go_simp
        all_goals with_reducible rfl
      simp only [Act.put, List.setIfInBounds_toArray, List.set_cons_zero, List.set_cons_succ]
      refine wpAnyH_take (i := 8) (oi := { dst := some 81, op := Op.binOp BinOp.eql 29 (.tmp 80) (.const (Value.int IntKind.i64 0)) 29, type := 4, pos := "law.go:75", after := #[{ on := 7, ground := .data }, { on := 6, ground := .guard }], guard := some (6, true) }) (v := ?_) rfl (by kernel_rfl) (by kernel_rfl) (by kernel_rfl) (fun _ _ _ h => h) (Or.inl ⟨by rfl, ?_⟩) qS ?_
      rotate_left
      · intro w hSw
        (try dsimp only at hSw)
        go_simp
        all_goals with_reducible rfl
      simp only [Act.put, List.setIfInBounds_toArray, List.set_cons_zero, List.set_cons_succ]
      refine wpAnyH_take (i := 9) (oi := { dst := some 82, op := Op.pick (.tmp 79) (.tmp 81) (.const (Value.bool false)), type := 4, pos := "law.go:75", after := #[{ on := 6, ground := .data }, { on := 8, ground := .data }], guard := none }) (v := ?_) rfl (by kernel_rfl) (by kernel_rfl) (by kernel_rfl) (fun _ _ _ h => h) (Or.inl ⟨by rfl, ?_⟩) qS ?_
      rotate_left
      · intro w hSw
        (try dsimp only at hSw)
        go_simp
        all_goals with_reducible rfl
      simp only [Act.put, List.setIfInBounds_toArray, List.set_cons_zero, List.set_cons_succ]
      refine wpAnyH_take (i := 10) (oi := { dst := some 83, op := Op.move (.tmp 82), type := 4, pos := "law.go:75", after := #[{ on := 9, ground := .data }, { on := 6, ground := .chain }], guard := none }) (v := ?_) rfl (by kernel_rfl) (by kernel_rfl) (by kernel_rfl) (fun _ _ _ h => h) (Or.inl ⟨by rfl, ?_⟩) qS ?_
      rotate_left
      · intro w hSw
        (try dsimp only at hSw)
        go_simp
        all_goals with_reducible rfl
      simp only [Act.put, List.setIfInBounds_toArray, List.set_cons_zero, List.set_cons_succ]
      refine wpAnyH_take (i := 11) (oi := { dst := some 84, op := Op.load 38 (.tmp 6), type := 38, pos := "law.go:75", after := #[{ on := 10, ground := .guard }], guard := some (10, true) }) (v := ?_) rfl (by kernel_rfl) (by kernel_rfl) (by kernel_rfl) (fun _ _ _ h => h) (Or.inl ⟨by rfl, ?_⟩) qS ?_
      rotate_left
      · intro w hSw
        (try dsimp only at hSw)
        go_simp
        all_goals with_reducible rfl
      simp only [Act.put, List.setIfInBounds_toArray, List.set_cons_zero, List.set_cons_succ]
      refine wpAnyH_take (i := 12) (oi := { dst := some 85, op := Op.load 38 (.tmp 2), type := 38, pos := "law.go:75", after := #[{ on := 10, ground := .guard }], guard := some (10, true) }) (v := ?_) rfl (by kernel_rfl) (by kernel_rfl) (by kernel_rfl) (fun _ _ _ h => h) (Or.inl ⟨by rfl, ?_⟩) qS ?_
      rotate_left
      · intro w hSw
        (try dsimp only at hSw)
        go_simp
        all_goals with_reducible rfl
      simp only [Act.put, List.setIfInBounds_toArray, List.set_cons_zero, List.set_cons_succ]
      refine wpAnyH_take (i := 13) (oi := { dst := some 86, op := Op.binOp BinOp.eql 38 (.tmp 84) (.tmp 85) 38, type := 4, pos := "law.go:75", after := #[{ on := 11, ground := .data }, { on := 12, ground := .data }, { on := 10, ground := .guard }], guard := some (10, true) }) (v := ?_) rfl (by kernel_rfl) (by kernel_rfl) (by kernel_rfl) (fun _ _ _ h => h) (Or.inl ⟨by rfl, ?_⟩) qS ?_
      rotate_left
      · intro w hSw
        (try dsimp only at hSw)
        go_simp
        all_goals with_reducible rfl
      simp only [Act.put, List.setIfInBounds_toArray, List.set_cons_zero, List.set_cons_succ]
      refine wpAnyH_take (i := 14) (oi := { dst := some 87, op := Op.pick (.tmp 83) (.tmp 86) (.const (Value.bool false)), type := 4, pos := "law.go:75", after := #[{ on := 10, ground := .data }, { on := 13, ground := .data }], guard := none }) (v := ?_) rfl (by kernel_rfl) (by kernel_rfl) (by kernel_rfl) (fun _ _ _ h => h) (Or.inl ⟨by rfl, ?_⟩) qS ?_
      rotate_left
      · intro w hSw
        (try dsimp only at hSw)
        go_simp
        all_goals with_reducible rfl
      simp only [Act.put, List.setIfInBounds_toArray, List.set_cons_zero, List.set_cons_succ]
      refine wpAnyH_take (i := 15) (oi := { dst := some 88, op := Op.move (.tmp 87), type := 4, pos := "law.go:75", after := #[{ on := 14, ground := .data }, { on := 10, ground := .chain }], guard := none }) (v := ?_) rfl (by kernel_rfl) (by kernel_rfl) (by kernel_rfl) (fun _ _ _ h => h) (Or.inl ⟨by rfl, ?_⟩) qS ?_
      rotate_left
      · intro w hSw
        (try dsimp only at hSw)
        go_simp
        all_goals with_reducible rfl
      simp only [Act.put, List.setIfInBounds_toArray, List.set_cons_zero, List.set_cons_succ]
      refine wpAnyH_take (i := 16) (oi := { dst := some 89, op := Op.load 38 (.tmp 8), type := 38, pos := "law.go:75", after := #[{ on := 15, ground := .guard }], guard := some (15, true) }) (v := ?_) rfl (by kernel_rfl) (by kernel_rfl) (by kernel_rfl) (fun _ _ _ h => h) (Or.inl ⟨by rfl, ?_⟩) qS ?_
      rotate_left
      · intro w hSw
        (try dsimp only at hSw)
        go_simp
        all_goals with_reducible rfl
      simp only [Act.put, List.setIfInBounds_toArray, List.set_cons_zero, List.set_cons_succ]
      refine wpAnyH_take (i := 17) (oi := { dst := some 90, op := Op.load 38 (.tmp 10), type := 38, pos := "law.go:75", after := #[{ on := 15, ground := .guard }], guard := some (15, true) }) (v := ?_) rfl (by kernel_rfl) (by kernel_rfl) (by kernel_rfl) (fun _ _ _ h => h) (Or.inl ⟨by rfl, ?_⟩) qS ?_
      rotate_left
      · intro w hSw
        (try dsimp only at hSw)
        go_simp
        all_goals with_reducible rfl
      simp only [Act.put, List.setIfInBounds_toArray, List.set_cons_zero, List.set_cons_succ]
      refine wpAnyH_take (i := 18) (oi := { dst := some 91, op := Op.binOp BinOp.eql 38 (.tmp 89) (.tmp 90) 38, type := 4, pos := "law.go:75", after := #[{ on := 16, ground := .data }, { on := 17, ground := .data }, { on := 15, ground := .guard }], guard := some (15, true) }) (v := ?_) rfl (by kernel_rfl) (by kernel_rfl) (by kernel_rfl) (fun _ _ _ h => h) (Or.inl ⟨by rfl, ?_⟩) qS ?_
      rotate_left
      · intro w hSw
        (try dsimp only at hSw)
        go_simp
        all_goals with_reducible rfl
      simp only [Act.put, List.setIfInBounds_toArray, List.set_cons_zero, List.set_cons_succ]
      refine wpAnyH_take (i := 19) (oi := { dst := some 92, op := Op.pick (.tmp 88) (.tmp 91) (.const (Value.bool false)), type := 4, pos := "law.go:75", after := #[{ on := 15, ground := .data }, { on := 18, ground := .data }], guard := none }) (v := ?_) rfl (by kernel_rfl) (by kernel_rfl) (by kernel_rfl) (fun _ _ _ h => h) (Or.inl ⟨by rfl, ?_⟩) qS ?_
      rotate_left
      · intro w hSw
        (try dsimp only at hSw)
        go_simp
        all_goals with_reducible rfl
      simp only [Act.put, List.setIfInBounds_toArray, List.set_cons_zero, List.set_cons_succ]
      refine wpAnyH_take (i := 20) (oi := { dst := some 93, op := Op.move (.tmp 92), type := 4, pos := "law.go:75", after := #[{ on := 19, ground := .data }, { on := 15, ground := .chain }], guard := none }) (v := ?_) rfl (by kernel_rfl) (by kernel_rfl) (by kernel_rfl) (fun _ _ _ h => h) (Or.inl ⟨by rfl, ?_⟩) qS ?_
      rotate_left
      · intro w hSw
        (try dsimp only at hSw)
        go_simp
        all_goals with_reducible rfl
      simp only [Act.put, List.setIfInBounds_toArray, List.set_cons_zero, List.set_cons_succ]
      refine wpAnyH_take (i := 21) (oi := { dst := some 94, op := Op.move (.tmp 9), type := 29, pos := "law.go:75", after := #[{ on := 20, ground := .guard }], guard := some (20, true) }) (v := ?_) rfl (by kernel_rfl) (by kernel_rfl) (by kernel_rfl) (fun _ _ _ h => h) (Or.inl ⟨by rfl, ?_⟩) qS ?_
      rotate_left
      · intro w hSw
        (try dsimp only at hSw)
        go_simp
        all_goals with_reducible rfl
      simp only [Act.put, List.setIfInBounds_toArray, List.set_cons_zero, List.set_cons_succ]
      refine wpAnyH_take (i := 22) (oi := { dst := some 95, op := Op.move (.tmp 11), type := 3, pos := "law.go:75", after := #[{ on := 20, ground := .guard }], guard := some (20, true) }) (v := ?_) rfl (by kernel_rfl) (by kernel_rfl) (by kernel_rfl) (fun _ _ _ h => h) (Or.inl ⟨by rfl, ?_⟩) qS ?_
      rotate_left
      · intro w hSw
        (try dsimp only at hSw)
        go_simp
        all_goals with_reducible rfl
      simp only [Act.put, List.setIfInBounds_toArray, List.set_cons_zero, List.set_cons_succ]
      refine wpAnyH_take (i := 23) (oi := { dst := some 96, op := Op.binOp BinOp.eql 3 (.tmp 94) (.tmp 95) 3, type := 4, pos := "law.go:75", after := #[{ on := 21, ground := .data }, { on := 22, ground := .data }, { on := 20, ground := .guard }], guard := some (20, true) }) (v := ?_) rfl (by kernel_rfl) (by kernel_rfl) (by kernel_rfl) (fun _ _ _ h => h) (Or.inl ⟨by rfl, ?_⟩) qS ?_
      rotate_left
      · intro w hSw
        (try dsimp only at hSw)
        go_simp
        all_goals with_reducible rfl
      simp only [Act.put, List.setIfInBounds_toArray, List.set_cons_zero, List.set_cons_succ]
      refine wpAnyH_take (i := 24) (oi := { dst := some 97, op := Op.pick (.tmp 93) (.tmp 96) (.const (Value.bool false)), type := 4, pos := "law.go:75", after := #[{ on := 20, ground := .data }, { on := 23, ground := .data }], guard := none }) (v := ?_) rfl (by kernel_rfl) (by kernel_rfl) (by kernel_rfl) (fun _ _ _ h => h) (Or.inl ⟨by rfl, ?_⟩) qS ?_
      rotate_left
      · intro w hSw
        (try dsimp only at hSw)
        go_simp
        all_goals with_reducible rfl
      simp only [Act.put, List.setIfInBounds_toArray, List.set_cons_zero, List.set_cons_succ]
      refine wpAnyH_take (i := 25) (oi := { dst := some 98, op := Op.move (.tmp 97), type := 4, pos := "law.go:75", after := #[{ on := 24, ground := .data }, { on := 20, ground := .chain }], guard := none }) (v := ?_) rfl (by kernel_rfl) (by kernel_rfl) (by kernel_rfl) (fun _ _ _ h => h) (Or.inl ⟨by rfl, ?_⟩) qS ?_
      rotate_left
      · intro w hSw
        (try dsimp only at hSw)
        go_simp
        all_goals with_reducible rfl
      simp only [Act.put, List.setIfInBounds_toArray, List.set_cons_zero, List.set_cons_succ]
      refine wpAnyH_take (i := 26) (oi := { dst := some 99, op := Op.move (.tmp 11), type := 3, pos := "law.go:75", after := #[{ on := 25, ground := .guard }], guard := some (25, true) }) (v := ?_) rfl (by kernel_rfl) (by kernel_rfl) (by kernel_rfl) (fun _ _ _ h => h) (Or.inl ⟨by rfl, ?_⟩) qS ?_
      rotate_left
      · intro w hSw
        (try dsimp only at hSw)
        go_simp
        all_goals with_reducible rfl
      simp only [Act.put, List.setIfInBounds_toArray, List.set_cons_zero, List.set_cons_succ]
      refine wpAnyH_take (i := 27) (oi := { dst := some 100, op := Op.binOp BinOp.neq 3 (.tmp 99) (.const (Value.int IntKind.i64 0)) 3, type := 4, pos := "law.go:75", after := #[{ on := 26, ground := .data }, { on := 25, ground := .guard }], guard := some (25, true) }) (v := ?_) rfl (by kernel_rfl) (by kernel_rfl) (by kernel_rfl) (fun _ _ _ h => h) (Or.inl ⟨by rfl, ?_⟩) qS ?_
      rotate_left
      · intro w hSw
        (try dsimp only at hSw)
        go_simp
        all_goals with_reducible rfl
      simp only [Act.put, List.setIfInBounds_toArray, List.set_cons_zero, List.set_cons_succ]
      refine wpAnyH_take (i := 28) (oi := { dst := some 101, op := Op.move (.tmp 100), type := 4, pos := "law.go:75", after := #[{ on := 27, ground := .data }, { on := 25, ground := .chain }, { on := 25, ground := .guard }], guard := some (25, true) }) (v := ?_) rfl (by kernel_rfl) (by kernel_rfl) (by kernel_rfl) (fun _ _ _ h => h) (Or.inl ⟨by rfl, ?_⟩) qS ?_
      rotate_left
      · intro w hSw
        (try dsimp only at hSw)
        go_simp
        all_goals with_reducible rfl
      simp only [Act.put, List.setIfInBounds_toArray, List.set_cons_zero, List.set_cons_succ]
      refine wpAnyH_take (i := 29) (oi := { dst := some 102, op := Op.load 38 (.tmp 8), type := 38, pos := "law.go:75", after := #[{ on := 28, ground := .guard }], guard := some (28, false) }) (v := ?_) rfl (by kernel_rfl) (by kernel_rfl) (by kernel_rfl) (fun _ _ _ h => h) (Or.inl ⟨by rfl, ?_⟩) qS ?_
      rotate_left
      · intro w hSw
        (try dsimp only at hSw)
        go_simp
        all_goals with_reducible rfl
      simp only [Act.put, List.setIfInBounds_toArray, List.set_cons_zero, List.set_cons_succ]
      refine wpAnyH_take (i := 32) (oi := { dst := some 105, op := Op.move (.tmp 1), type := 28, pos := "law.go:75", after := #[{ on := 28, ground := .guard }], guard := some (28, false) }) (v := ?_) rfl (by kernel_rfl) (by kernel_rfl) (by kernel_rfl) (fun _ _ _ h => h) (Or.inl ⟨by rfl, ?_⟩) qS ?_
      rotate_left
      · intro w hSw
        (try dsimp only at hSw)
        go_simp
        all_goals with_reducible rfl
      simp only [Act.put, List.setIfInBounds_toArray, List.set_cons_zero, List.set_cons_succ]
      refine wpAnyH_take (i := 33) (oi := { dst := some 106, op := Op.convert 28 9 (.tmp 105), type := 9, pos := "law.go:75", after := #[{ on := 32, ground := .data }, { on := 28, ground := .guard }], guard := some (28, false) }) (v := ?_) rfl (by kernel_rfl) (by kernel_rfl) (by kernel_rfl) (fun _ _ _ h => h) (Or.inl ⟨by rfl, ?_⟩) qS ?_
      rotate_left
      · intro w hSw
        (try dsimp only at hSw)
        go_simp
        all_goals with_reducible rfl
      simp only [Act.put, List.setIfInBounds_toArray, List.set_cons_zero, List.set_cons_succ]
      refine H_one (i := 30) (o := { dst := some 103, op := Op.call { callee := Callee.value (.func 16), args := #[.tmp 102], argTypes := #[38] }, type := 28, pos := "law.go:75", after := #[{ on := 29, ground := .data }, { on := 28, ground := .chain }, { on := 28, ground := .guard }], guard := some (28, false) }) (by kernel_rfl) rfl (fun K hK => ?_)
      go_simp
      go_at_call 16
      refine (fr_enc_ans pa _ HNP.out).mono ?_
      rintro e wB ⟨vB, rfl, ho, hB⟩
      have pvB : Below w13.heap.size w13 wB := qS.1.trans (hB.mono qS.1.size)
      have hcB : ∀ w', Below wB.heap.size wB w' → (convert 28 9 vB).run Try.prog w' = .ok (.string (strB zs)) w' := fun w' hB' => by
        have := run_string_of 28 9 5 Try.underlying28 Try.underlying5 Try.underlying9 ((Reads.of_own ho).below hB')
        rw [HE.out] at this; exact this
      have hB2 : Below wA.heap.size wA wB := hB
      clear ho hB
      go_simp
      refine hK.out _ _ ⟨pvB, hB2⟩ ?_
      clear hK K
      (try simp only [Act.put, List.setIfInBounds_toArray, List.set_cons_zero, List.set_cons_succ])
      refine H_weaken (S2 := fun w' => Below w13.heap.size w13 w' ∧ Below wB.heap.size wB w') (fun w h => ⟨h.1, hB2.trans (h.2.mono hB2.size)⟩) _ _ _ _ ?_
      replace qS := (⟨pvB, Below.refl _ _⟩ : Below w13.heap.size w13 wB ∧ Below wB.heap.size wB wB)
      refine wpAnyH_take (i := 31) (oi := { dst := some 104, op := Op.convert 28 9 (.tmp 103), type := 9, pos := "law.go:75", after := #[{ on := 30, ground := .data }, { on := 28, ground := .guard }], guard := some (28, false) }) (v := ?_) rfl (by kernel_rfl) (by kernel_rfl) (by kernel_rfl) (fun _ _ _ h => h) (Or.inl ⟨by rfl, ?_⟩) qS ?_
      rotate_left
      · intro w hSw
        (try dsimp only at hSw)
        go_simp
        all_goals with_reducible rfl
      simp only [Act.put, List.setIfInBounds_toArray, List.set_cons_zero, List.set_cons_succ]
      refine wpAnyH_take (i := 34) (oi := { dst := some 107, op := Op.binOp BinOp.eql 9 (.tmp 104) (.tmp 106) 9, type := 4, pos := "law.go:75", after := #[{ on := 31, ground := .data }, { on := 33, ground := .data }, { on := 28, ground := .guard }], guard := some (28, false) }) (v := ?_) rfl (by kernel_rfl) (by kernel_rfl) (by kernel_rfl) (fun _ _ _ h => h) (Or.inl ⟨by rfl, ?_⟩) qS ?_
      rotate_left
      · intro w hSw
        (try dsimp only at hSw)
        go_simp
        all_goals with_reducible rfl
      simp only [Act.put, List.setIfInBounds_toArray, List.set_cons_zero, List.set_cons_succ]
      refine wpAnyH_take (i := 35) (oi := { dst := some 108, op := Op.pick (.tmp 101) (.const (Value.bool true)) (.tmp 107), type := 4, pos := "law.go:75", after := #[{ on := 28, ground := .data }, { on := 34, ground := .data }, { on := 25, ground := .guard }], guard := some (25, true) }) (v := ?_) rfl (by kernel_rfl) (by kernel_rfl) (by kernel_rfl) (fun _ _ _ h => h) (Or.inl ⟨by rfl, ?_⟩) qS ?_
      rotate_left
      · intro w hSw
        (try dsimp only at hSw)
        go_simp
        all_goals with_reducible rfl
      simp only [Act.put, List.setIfInBounds_toArray, List.set_cons_zero, List.set_cons_succ]
      refine wpAnyH_take (i := 36) (oi := { dst := some 109, op := Op.pick (.tmp 98) (.tmp 108) (.const (Value.bool false)), type := 4, pos := "law.go:75", after := #[{ on := 25, ground := .data }, { on := 35, ground := .data }], guard := none }) (v := ?_) rfl (by kernel_rfl) (by kernel_rfl) (by kernel_rfl) (fun _ _ _ h => h) (Or.inl ⟨by rfl, ?_⟩) qS ?_
      rotate_left
      · intro w hSw
        (try dsimp only at hSw)
        go_simp
        all_goals with_reducible rfl
      simp only [Act.put, List.setIfInBounds_toArray, List.set_cons_zero, List.set_cons_succ]
      refine wpAnyH_take (i := 37) (oi := { dst := some 110, op := Op.move (.tmp 109), type := 4, pos := "law.go:75", after := #[{ on := 36, ground := .data }, { on := 30, ground := .chain }], guard := none }) (v := ?_) rfl (by kernel_rfl) (by kernel_rfl) (by kernel_rfl) (fun _ _ _ h => h) (Or.inl ⟨by rfl, ?_⟩) qS ?_
      rotate_left
      · intro w hSw
        (try dsimp only at hSw)
        go_simp
        all_goals with_reducible rfl
      simp only [Act.put, List.setIfInBounds_toArray, List.set_cons_zero, List.set_cons_succ]
      refine wpAnyH_take (i := 38) (oi := { dst := some 111, op := Op.move (.tmp 12), type := 28, pos := "law.go:75", after := #[{ on := 37, ground := .guard }], guard := some (37, true) }) (v := ?_) rfl (by kernel_rfl) (by kernel_rfl) (by kernel_rfl) (fun _ _ _ h => h) (Or.inl ⟨by rfl, ?_⟩) qS ?_
      rotate_left
      · intro w hSw
        (try dsimp only at hSw)
        go_simp
        all_goals with_reducible rfl
      simp only [Act.put, List.setIfInBounds_toArray, List.set_cons_zero, List.set_cons_succ]
      refine wpAnyH_take (i := 39) (oi := { dst := some 112, op := Op.convert 28 9 (.tmp 111), type := 9, pos := "law.go:75", after := #[{ on := 38, ground := .data }, { on := 37, ground := .guard }], guard := some (37, true) }) (v := ?_) rfl (by kernel_rfl) (by kernel_rfl) (by kernel_rfl) (fun _ _ _ h => h) (Or.inl ⟨by rfl, ?_⟩) qS ?_
      rotate_left
      · intro w hSw
        (try dsimp only at hSw)
        go_simp
        all_goals with_reducible rfl
      simp only [Act.put, List.setIfInBounds_toArray, List.set_cons_zero, List.set_cons_succ]
      refine wpAnyH_take (i := 40) (oi := { dst := some 113, op := Op.move (.tmp 14), type := 28, pos := "law.go:75", after := #[{ on := 37, ground := .guard }], guard := some (37, true) }) (v := ?_) rfl (by kernel_rfl) (by kernel_rfl) (by kernel_rfl) (fun _ _ _ h => h) (Or.inl ⟨by rfl, ?_⟩) qS ?_
      rotate_left
      · intro w hSw
        (try dsimp only at hSw)
        go_simp
        all_goals with_reducible rfl
      simp only [Act.put, List.setIfInBounds_toArray, List.set_cons_zero, List.set_cons_succ]
      refine wpAnyH_take (i := 41) (oi := { dst := some 114, op := Op.convert 28 9 (.tmp 113), type := 9, pos := "law.go:75", after := #[{ on := 40, ground := .data }, { on := 37, ground := .guard }], guard := some (37, true) }) (v := ?_) rfl (by kernel_rfl) (by kernel_rfl) (by kernel_rfl) (fun _ _ _ h => h) (Or.inl ⟨by rfl, ?_⟩) qS ?_
      rotate_left
      · intro w hSw
        (try dsimp only at hSw)
        go_simp
        all_goals with_reducible rfl
      simp only [Act.put, List.setIfInBounds_toArray, List.set_cons_zero, List.set_cons_succ]
      refine wpAnyH_take (i := 42) (oi := { dst := some 115, op := Op.binOp BinOp.eql 9 (.tmp 112) (.tmp 114) 9, type := 4, pos := "law.go:75", after := #[{ on := 39, ground := .data }, { on := 41, ground := .data }, { on := 37, ground := .guard }], guard := some (37, true) }) (v := ?_) rfl (by kernel_rfl) (by kernel_rfl) (by kernel_rfl) (fun _ _ _ h => h) (Or.inl ⟨by rfl, ?_⟩) qS ?_
      rotate_left
      · intro w hSw
        (try dsimp only at hSw)
        go_simp
        all_goals with_reducible rfl
      simp only [Act.put, List.setIfInBounds_toArray, List.set_cons_zero, List.set_cons_succ]
      refine wpAnyH_take (i := 43) (oi := { dst := some 116, op := Op.pick (.tmp 110) (.tmp 115) (.const (Value.bool false)), type := 4, pos := "law.go:75", after := #[{ on := 37, ground := .data }, { on := 42, ground := .data }], guard := none }) (v := ?_) rfl (by kernel_rfl) (by kernel_rfl) (by kernel_rfl) (fun _ _ _ h => h) (Or.inl ⟨by rfl, ?_⟩) qS ?_
      rotate_left
      · intro w hSw
        (try dsimp only at hSw)
        go_simp
        all_goals with_reducible rfl
      simp only [Act.put, List.setIfInBounds_toArray, List.set_cons_zero, List.set_cons_succ]
      refine wpAnyH_take (i := 44) (oi := { dst := some 117, op := Op.move (.tmp 116), type := 4, pos := "law.go:75", after := #[{ on := 43, ground := .data }, { on := 37, ground := .chain }], guard := none }) (v := ?_) rfl (by kernel_rfl) (by kernel_rfl) (by kernel_rfl) (fun _ _ _ h => h) (Or.inl ⟨by rfl, ?_⟩) qS ?_
      rotate_left
      · intro w hSw
        (try dsimp only at hSw)
        go_simp
        all_goals with_reducible rfl
      simp only [Act.put, List.setIfInBounds_toArray, List.set_cons_zero, List.set_cons_succ]
      refine wpAnyH_take (i := 45) (oi := { dst := some 118, op := Op.move (.tmp 13), type := 29, pos := "law.go:75", after := #[{ on := 44, ground := .guard }], guard := some (44, true) }) (v := ?_) rfl (by kernel_rfl) (by kernel_rfl) (by kernel_rfl) (fun _ _ _ h => h) (Or.inl ⟨by rfl, ?_⟩) qS ?_
      rotate_left
      · intro w hSw
        (try dsimp only at hSw)
        go_simp
        all_goals with_reducible rfl
      simp only [Act.put, List.setIfInBounds_toArray, List.set_cons_zero, List.set_cons_succ]
      refine wpAnyH_take (i := 46) (oi := { dst := some 119, op := Op.move (.tmp 15), type := 3, pos := "law.go:75", after := #[{ on := 44, ground := .guard }], guard := some (44, true) }) (v := ?_) rfl (by kernel_rfl) (by kernel_rfl) (by kernel_rfl) (fun _ _ _ h => h) (Or.inl ⟨by rfl, ?_⟩) qS ?_
      rotate_left
      · intro w hSw
        (try dsimp only at hSw)
        go_simp
        all_goals with_reducible rfl
      simp only [Act.put, List.setIfInBounds_toArray, List.set_cons_zero, List.set_cons_succ]
      refine wpAnyH_take (i := 47) (oi := { dst := some 120, op := Op.binOp BinOp.eql 3 (.tmp 118) (.tmp 119) 3, type := 4, pos := "law.go:75", after := #[{ on := 45, ground := .data }, { on := 46, ground := .data }, { on := 44, ground := .guard }], guard := some (44, true) }) (v := ?_) rfl (by kernel_rfl) (by kernel_rfl) (by kernel_rfl) (fun _ _ _ h => h) (Or.inl ⟨by rfl, ?_⟩) qS ?_
      rotate_left
      · intro w hSw
        (try dsimp only at hSw)
        go_simp
        all_goals with_reducible rfl
      simp only [Act.put, List.setIfInBounds_toArray, List.set_cons_zero, List.set_cons_succ]
      refine wpAnyH_take (i := 48) (oi := { dst := some 121, op := Op.pick (.tmp 117) (.tmp 120) (.const (Value.bool false)), type := 4, pos := "law.go:75", after := #[{ on := 44, ground := .data }, { on := 47, ground := .data }], guard := none }) (v := ?_) rfl (by kernel_rfl) (by kernel_rfl) (by kernel_rfl) (fun _ _ _ h => h) (Or.inl ⟨by rfl, ?_⟩) qS ?_
      rotate_left
      · intro w hSw
        (try dsimp only at hSw)
        go_simp
        all_goals with_reducible rfl
      simp only [Act.put, List.setIfInBounds_toArray, List.set_cons_zero, List.set_cons_succ]
      refine wpAnyH_take (i := 49) (oi := { dst := some 4, op := Op.assign (.tmp 121), type := 4, pos := "law.go:75", after := #[{ on := 48, ground := .data }, { on := 44, ground := .chain }, { on := 0, ground := .phase }, { on := 1, ground := .phase }, { on := 2, ground := .phase }, { on := 3, ground := .phase }, { on := 4, ground := .phase }, { on := 5, ground := .phase }, { on := 6, ground := .phase }, { on := 7, ground := .phase }, { on := 8, ground := .phase }, { on := 9, ground := .phase }, { on := 10, ground := .phase }, { on := 11, ground := .phase }, { on := 12, ground := .phase }, { on := 13, ground := .phase }, { on := 14, ground := .phase }, { on := 15, ground := .phase }, { on := 16, ground := .phase }, { on := 17, ground := .phase }, { on := 18, ground := .phase }, { on := 19, ground := .phase }, { on := 20, ground := .phase }, { on := 21, ground := .phase }, { on := 22, ground := .phase }, { on := 23, ground := .phase }, { on := 24, ground := .phase }, { on := 25, ground := .phase }, { on := 26, ground := .phase }, { on := 27, ground := .phase }, { on := 28, ground := .phase }, { on := 29, ground := .phase }, { on := 30, ground := .phase }, { on := 31, ground := .phase }, { on := 32, ground := .phase }, { on := 33, ground := .phase }, { on := 34, ground := .phase }, { on := 35, ground := .phase }, { on := 36, ground := .phase }, { on := 37, ground := .phase }, { on := 38, ground := .phase }, { on := 39, ground := .phase }, { on := 40, ground := .phase }, { on := 41, ground := .phase }, { on := 42, ground := .phase }, { on := 43, ground := .phase }, { on := 44, ground := .phase }, { on := 45, ground := .phase }, { on := 46, ground := .phase }, { on := 47, ground := .phase }, { on := 48, ground := .phase }], guard := none }) (v := ?_) rfl (by kernel_rfl) (by kernel_rfl) (by kernel_rfl) (fun _ _ _ h => h) (Or.inl ⟨by rfl, ?_⟩) qS ?_
      rotate_left
      · intro w hSw
        (try dsimp only at hSw)
        go_simp
        all_goals with_reducible rfl
      simp only [Act.put, List.setIfInBounds_toArray, List.set_cons_zero, List.set_cons_succ]
      refine wpAnyH_done (by kernel_rfl) ?_ _
      have FIN : Hid (TrueBelow w (.returned (.bool true)) wB) := Lib.hid ⟨rfl, HBW.out.trans (qS.1.mono HBW.out.size)⟩
      clear hcA hcB l2 m2 l6 m6 l8 m8 l10 m10 c5 cb c12 c14 ea qS
      go_wp2
      go_ret
      exact FIN.out
    · have hq0 : (pe != 0) = true := by simp [hpe]
      clear hpe
      refine wp_region_held_drew (S := fun w' => Below w13.heap.size w13 w') (by kernel_rfl) (Below.refl _ _).drew (fun hHeld => ?_)
      have qS := hHeld
      clear hHeld
      refine wpAnyH_take (i := 0) (oi := { dst := some 73, op := Op.move (.tmp 5), type := 28, pos := "law.go:75", after := #[], guard := none }) (v := ?_) rfl (by kernel_rfl) (by kernel_rfl) (by kernel_rfl) (fun _ _ _ h => h) (Or.inl ⟨by rfl, ?_⟩) qS ?_
      rotate_left
      · intro w hSw
        (try dsimp only at hSw)
        go_simp
        all_goals with_reducible rfl
      simp only [Act.put, List.setIfInBounds_toArray, List.set_cons_zero, List.set_cons_succ]
      refine wpAnyH_take (i := 1) (oi := { dst := some 74, op := Op.convert 28 9 (.tmp 73), type := 9, pos := "law.go:75", after := #[{ on := 0, ground := .data }], guard := none }) (v := ?_) rfl (by kernel_rfl) (by kernel_rfl) (by kernel_rfl) (fun _ _ _ h => h) (Or.inl ⟨by rfl, ?_⟩) qS ?_
      rotate_left
      · intro w hSw
        (try dsimp only at hSw)
        go_simp
        all_goals with_reducible rfl
      simp only [Act.put, List.setIfInBounds_toArray, List.set_cons_zero, List.set_cons_succ]
      refine wpAnyH_take (i := 2) (oi := { dst := some 75, op := Op.load 38 (.tmp 2), type := 38, pos := "law.go:75", after := #[], guard := none }) (v := ?_) rfl (by kernel_rfl) (by kernel_rfl) (by kernel_rfl) (fun _ _ _ h => h) (Or.inl ⟨by rfl, ?_⟩) qS ?_
      rotate_left
      · intro w hSw
        (try dsimp only at hSw)
        go_simp
        all_goals with_reducible rfl
      simp only [Act.put, List.setIfInBounds_toArray, List.set_cons_zero, List.set_cons_succ]
      refine H_one (i := 3) (o := { dst := some 76, op := Op.call { callee := Callee.value (.func 20), args := #[.tmp 75], argTypes := #[38] }, type := 28, pos := "law.go:75", after := #[{ on := 2, ground := .data }], guard := none }) (by kernel_rfl) rfl (fun K hK => ?_)
      go_simp
      go_at_call 20
      refine (ref_enc_ans an _ HNM.out).mono ?_
      rintro e wA ⟨vA, rfl, ho, hB⟩
      have pvA : Below w13.heap.size w13 wA := qS.trans hB
      have hcA : ∀ w', Below wA.heap.size wA w' → (convert 28 9 vA).run Try.prog w' = .ok (.string (strB (encAns an))) w' := fun w' hB' => by
        have := run_string_of 28 9 5 Try.underlying28 Try.underlying5 Try.underlying9 ((Reads.of_own ho).below hB')
        exact this
      clear ho hB
      go_simp
      refine hK.out _ _ pvA ?_
      clear hK K
      (try simp only [Act.put, List.setIfInBounds_toArray, List.set_cons_zero, List.set_cons_succ])
      refine H_weaken (S2 := fun w' => Below w13.heap.size w13 w' ∧ Below wA.heap.size wA w') (fun w h => h.1) _ _ _ _ ?_
      replace qS := (⟨pvA, Below.refl _ _⟩ : Below w13.heap.size w13 wA ∧ Below wA.heap.size wA wA)
      refine wpAnyH_take (i := 4) (oi := { dst := some 77, op := Op.convert 28 9 (.tmp 76), type := 9, pos := "law.go:75", after := #[{ on := 3, ground := .data }], guard := none }) (v := ?_) rfl (by kernel_rfl) (by kernel_rfl) (by kernel_rfl) (fun _ _ _ h => h) (Or.inl ⟨by rfl, ?_⟩) qS ?_
      rotate_left
      · intro w hSw
        (try dsimp only at hSw)
        go_simp
        all_goals with_reducible rfl
      simp only [Act.put, List.setIfInBounds_toArray, List.set_cons_zero, List.set_cons_succ]
      refine wpAnyH_take (i := 5) (oi := { dst := some 78, op := Op.binOp BinOp.eql 9 (.tmp 74) (.tmp 77) 9, type := 4, pos := "law.go:75", after := #[{ on := 1, ground := .data }, { on := 4, ground := .data }], guard := none }) (v := ?_) rfl (by kernel_rfl) (by kernel_rfl) (by kernel_rfl) (fun _ _ _ h => h) (Or.inl ⟨by rfl, ?_⟩) qS ?_
      rotate_left
      · intro w hSw
        (try dsimp only at hSw)
        go_simp
        all_goals with_reducible rfl
      simp only [Act.put, List.setIfInBounds_toArray, List.set_cons_zero, List.set_cons_succ]
      refine wpAnyH_take (i := 6) (oi := { dst := some 79, op := Op.move (.tmp 78), type := 4, pos := "law.go:75", after := #[{ on := 5, ground := .data }, { on := 3, ground := .chain }], guard := none }) (v := ?_) rfl (by kernel_rfl) (by kernel_rfl) (by kernel_rfl) (fun _ _ _ h => h) (Or.inl ⟨by rfl, ?_⟩) qS ?_
      rotate_left
      · intro w hSw
        (try dsimp only at hSw)
        go_simp
        all_goals with_reducible rfl
      simp only [Act.put, List.setIfInBounds_toArray, List.set_cons_zero, List.set_cons_succ]
      refine wpAnyH_take (i := 7) (oi := { dst := some 80, op := Op.move (.tmp 7), type := 29, pos := "law.go:75", after := #[{ on := 6, ground := .guard }], guard := some (6, true) }) (v := ?_) rfl (by kernel_rfl) (by kernel_rfl) (by kernel_rfl) (fun _ _ _ h => h) (Or.inl ⟨by rfl, ?_⟩) qS ?_
      rotate_left
      · intro w hSw
        (try dsimp only at hSw)
        go_simp
        all_goals with_reducible rfl
      simp only [Act.put, List.setIfInBounds_toArray, List.set_cons_zero, List.set_cons_succ]
      refine wpAnyH_take (i := 8) (oi := { dst := some 81, op := Op.binOp BinOp.eql 29 (.tmp 80) (.const (Value.int IntKind.i64 0)) 29, type := 4, pos := "law.go:75", after := #[{ on := 7, ground := .data }, { on := 6, ground := .guard }], guard := some (6, true) }) (v := ?_) rfl (by kernel_rfl) (by kernel_rfl) (by kernel_rfl) (fun _ _ _ h => h) (Or.inl ⟨by rfl, ?_⟩) qS ?_
      rotate_left
      · intro w hSw
        (try dsimp only at hSw)
        go_simp
        all_goals with_reducible rfl
      simp only [Act.put, List.setIfInBounds_toArray, List.set_cons_zero, List.set_cons_succ]
      refine wpAnyH_take (i := 9) (oi := { dst := some 82, op := Op.pick (.tmp 79) (.tmp 81) (.const (Value.bool false)), type := 4, pos := "law.go:75", after := #[{ on := 6, ground := .data }, { on := 8, ground := .data }], guard := none }) (v := ?_) rfl (by kernel_rfl) (by kernel_rfl) (by kernel_rfl) (fun _ _ _ h => h) (Or.inl ⟨by rfl, ?_⟩) qS ?_
      rotate_left
      · intro w hSw
        (try dsimp only at hSw)
        go_simp
        all_goals with_reducible rfl
      simp only [Act.put, List.setIfInBounds_toArray, List.set_cons_zero, List.set_cons_succ]
      refine wpAnyH_take (i := 10) (oi := { dst := some 83, op := Op.move (.tmp 82), type := 4, pos := "law.go:75", after := #[{ on := 9, ground := .data }, { on := 6, ground := .chain }], guard := none }) (v := ?_) rfl (by kernel_rfl) (by kernel_rfl) (by kernel_rfl) (fun _ _ _ h => h) (Or.inl ⟨by rfl, ?_⟩) qS ?_
      rotate_left
      · intro w hSw
        (try dsimp only at hSw)
        go_simp
        all_goals with_reducible rfl
      simp only [Act.put, List.setIfInBounds_toArray, List.set_cons_zero, List.set_cons_succ]
      refine wpAnyH_take (i := 11) (oi := { dst := some 84, op := Op.load 38 (.tmp 6), type := 38, pos := "law.go:75", after := #[{ on := 10, ground := .guard }], guard := some (10, true) }) (v := ?_) rfl (by kernel_rfl) (by kernel_rfl) (by kernel_rfl) (fun _ _ _ h => h) (Or.inl ⟨by rfl, ?_⟩) qS ?_
      rotate_left
      · intro w hSw
        (try dsimp only at hSw)
        go_simp
        all_goals with_reducible rfl
      simp only [Act.put, List.setIfInBounds_toArray, List.set_cons_zero, List.set_cons_succ]
      refine wpAnyH_take (i := 12) (oi := { dst := some 85, op := Op.load 38 (.tmp 2), type := 38, pos := "law.go:75", after := #[{ on := 10, ground := .guard }], guard := some (10, true) }) (v := ?_) rfl (by kernel_rfl) (by kernel_rfl) (by kernel_rfl) (fun _ _ _ h => h) (Or.inl ⟨by rfl, ?_⟩) qS ?_
      rotate_left
      · intro w hSw
        (try dsimp only at hSw)
        go_simp
        all_goals with_reducible rfl
      simp only [Act.put, List.setIfInBounds_toArray, List.set_cons_zero, List.set_cons_succ]
      refine wpAnyH_take (i := 13) (oi := { dst := some 86, op := Op.binOp BinOp.eql 38 (.tmp 84) (.tmp 85) 38, type := 4, pos := "law.go:75", after := #[{ on := 11, ground := .data }, { on := 12, ground := .data }, { on := 10, ground := .guard }], guard := some (10, true) }) (v := ?_) rfl (by kernel_rfl) (by kernel_rfl) (by kernel_rfl) (fun _ _ _ h => h) (Or.inl ⟨by rfl, ?_⟩) qS ?_
      rotate_left
      · intro w hSw
        (try dsimp only at hSw)
        go_simp
        all_goals with_reducible rfl
      simp only [Act.put, List.setIfInBounds_toArray, List.set_cons_zero, List.set_cons_succ]
      refine wpAnyH_take (i := 14) (oi := { dst := some 87, op := Op.pick (.tmp 83) (.tmp 86) (.const (Value.bool false)), type := 4, pos := "law.go:75", after := #[{ on := 10, ground := .data }, { on := 13, ground := .data }], guard := none }) (v := ?_) rfl (by kernel_rfl) (by kernel_rfl) (by kernel_rfl) (fun _ _ _ h => h) (Or.inl ⟨by rfl, ?_⟩) qS ?_
      rotate_left
      · intro w hSw
        (try dsimp only at hSw)
        go_simp
        all_goals with_reducible rfl
      simp only [Act.put, List.setIfInBounds_toArray, List.set_cons_zero, List.set_cons_succ]
      refine wpAnyH_take (i := 15) (oi := { dst := some 88, op := Op.move (.tmp 87), type := 4, pos := "law.go:75", after := #[{ on := 14, ground := .data }, { on := 10, ground := .chain }], guard := none }) (v := ?_) rfl (by kernel_rfl) (by kernel_rfl) (by kernel_rfl) (fun _ _ _ h => h) (Or.inl ⟨by rfl, ?_⟩) qS ?_
      rotate_left
      · intro w hSw
        (try dsimp only at hSw)
        go_simp
        all_goals with_reducible rfl
      simp only [Act.put, List.setIfInBounds_toArray, List.set_cons_zero, List.set_cons_succ]
      refine wpAnyH_take (i := 16) (oi := { dst := some 89, op := Op.load 38 (.tmp 8), type := 38, pos := "law.go:75", after := #[{ on := 15, ground := .guard }], guard := some (15, true) }) (v := ?_) rfl (by kernel_rfl) (by kernel_rfl) (by kernel_rfl) (fun _ _ _ h => h) (Or.inl ⟨by rfl, ?_⟩) qS ?_
      rotate_left
      · intro w hSw
        (try dsimp only at hSw)
        go_simp
        all_goals with_reducible rfl
      simp only [Act.put, List.setIfInBounds_toArray, List.set_cons_zero, List.set_cons_succ]
      refine wpAnyH_take (i := 17) (oi := { dst := some 90, op := Op.load 38 (.tmp 10), type := 38, pos := "law.go:75", after := #[{ on := 15, ground := .guard }], guard := some (15, true) }) (v := ?_) rfl (by kernel_rfl) (by kernel_rfl) (by kernel_rfl) (fun _ _ _ h => h) (Or.inl ⟨by rfl, ?_⟩) qS ?_
      rotate_left
      · intro w hSw
        (try dsimp only at hSw)
        go_simp
        all_goals with_reducible rfl
      simp only [Act.put, List.setIfInBounds_toArray, List.set_cons_zero, List.set_cons_succ]
      refine wpAnyH_take (i := 18) (oi := { dst := some 91, op := Op.binOp BinOp.eql 38 (.tmp 89) (.tmp 90) 38, type := 4, pos := "law.go:75", after := #[{ on := 16, ground := .data }, { on := 17, ground := .data }, { on := 15, ground := .guard }], guard := some (15, true) }) (v := ?_) rfl (by kernel_rfl) (by kernel_rfl) (by kernel_rfl) (fun _ _ _ h => h) (Or.inl ⟨by rfl, ?_⟩) qS ?_
      rotate_left
      · intro w hSw
        (try dsimp only at hSw)
        go_simp
        all_goals with_reducible rfl
      simp only [Act.put, List.setIfInBounds_toArray, List.set_cons_zero, List.set_cons_succ]
      refine wpAnyH_take (i := 19) (oi := { dst := some 92, op := Op.pick (.tmp 88) (.tmp 91) (.const (Value.bool false)), type := 4, pos := "law.go:75", after := #[{ on := 15, ground := .data }, { on := 18, ground := .data }], guard := none }) (v := ?_) rfl (by kernel_rfl) (by kernel_rfl) (by kernel_rfl) (fun _ _ _ h => h) (Or.inl ⟨by rfl, ?_⟩) qS ?_
      rotate_left
      · intro w hSw
        (try dsimp only at hSw)
        go_simp
        all_goals with_reducible rfl
      simp only [Act.put, List.setIfInBounds_toArray, List.set_cons_zero, List.set_cons_succ]
      refine wpAnyH_take (i := 20) (oi := { dst := some 93, op := Op.move (.tmp 92), type := 4, pos := "law.go:75", after := #[{ on := 19, ground := .data }, { on := 15, ground := .chain }], guard := none }) (v := ?_) rfl (by kernel_rfl) (by kernel_rfl) (by kernel_rfl) (fun _ _ _ h => h) (Or.inl ⟨by rfl, ?_⟩) qS ?_
      rotate_left
      · intro w hSw
        (try dsimp only at hSw)
        go_simp
        all_goals with_reducible rfl
      simp only [Act.put, List.setIfInBounds_toArray, List.set_cons_zero, List.set_cons_succ]
      refine wpAnyH_take (i := 21) (oi := { dst := some 94, op := Op.move (.tmp 9), type := 29, pos := "law.go:75", after := #[{ on := 20, ground := .guard }], guard := some (20, true) }) (v := ?_) rfl (by kernel_rfl) (by kernel_rfl) (by kernel_rfl) (fun _ _ _ h => h) (Or.inl ⟨by rfl, ?_⟩) qS ?_
      rotate_left
      · intro w hSw
        (try dsimp only at hSw)
        go_simp
        all_goals with_reducible rfl
      simp only [Act.put, List.setIfInBounds_toArray, List.set_cons_zero, List.set_cons_succ]
      refine wpAnyH_take (i := 22) (oi := { dst := some 95, op := Op.move (.tmp 11), type := 3, pos := "law.go:75", after := #[{ on := 20, ground := .guard }], guard := some (20, true) }) (v := ?_) rfl (by kernel_rfl) (by kernel_rfl) (by kernel_rfl) (fun _ _ _ h => h) (Or.inl ⟨by rfl, ?_⟩) qS ?_
      rotate_left
      · intro w hSw
        (try dsimp only at hSw)
        go_simp
        all_goals with_reducible rfl
      simp only [Act.put, List.setIfInBounds_toArray, List.set_cons_zero, List.set_cons_succ]
      refine wpAnyH_take (i := 23) (oi := { dst := some 96, op := Op.binOp BinOp.eql 3 (.tmp 94) (.tmp 95) 3, type := 4, pos := "law.go:75", after := #[{ on := 21, ground := .data }, { on := 22, ground := .data }, { on := 20, ground := .guard }], guard := some (20, true) }) (v := ?_) rfl (by kernel_rfl) (by kernel_rfl) (by kernel_rfl) (fun _ _ _ h => h) (Or.inl ⟨by rfl, ?_⟩) qS ?_
      rotate_left
      · intro w hSw
        (try dsimp only at hSw)
        go_simp
        all_goals with_reducible rfl
      simp only [Act.put, List.setIfInBounds_toArray, List.set_cons_zero, List.set_cons_succ]
      refine wpAnyH_take (i := 24) (oi := { dst := some 97, op := Op.pick (.tmp 93) (.tmp 96) (.const (Value.bool false)), type := 4, pos := "law.go:75", after := #[{ on := 20, ground := .data }, { on := 23, ground := .data }], guard := none }) (v := ?_) rfl (by kernel_rfl) (by kernel_rfl) (by kernel_rfl) (fun _ _ _ h => h) (Or.inl ⟨by rfl, ?_⟩) qS ?_
      rotate_left
      · intro w hSw
        (try dsimp only at hSw)
        go_simp
        all_goals with_reducible rfl
      simp only [Act.put, List.setIfInBounds_toArray, List.set_cons_zero, List.set_cons_succ]
      refine wpAnyH_take (i := 25) (oi := { dst := some 98, op := Op.move (.tmp 97), type := 4, pos := "law.go:75", after := #[{ on := 24, ground := .data }, { on := 20, ground := .chain }], guard := none }) (v := ?_) rfl (by kernel_rfl) (by kernel_rfl) (by kernel_rfl) (fun _ _ _ h => h) (Or.inl ⟨by rfl, ?_⟩) qS ?_
      rotate_left
      · intro w hSw
        (try dsimp only at hSw)
        go_simp
        all_goals with_reducible rfl
      simp only [Act.put, List.setIfInBounds_toArray, List.set_cons_zero, List.set_cons_succ]
      refine wpAnyH_take (i := 26) (oi := { dst := some 99, op := Op.move (.tmp 11), type := 3, pos := "law.go:75", after := #[{ on := 25, ground := .guard }], guard := some (25, true) }) (v := ?_) rfl (by kernel_rfl) (by kernel_rfl) (by kernel_rfl) (fun _ _ _ h => h) (Or.inl ⟨by rfl, ?_⟩) qS ?_
      rotate_left
      · intro w hSw
        (try dsimp only at hSw)
        go_simp
        all_goals with_reducible rfl
      simp only [Act.put, List.setIfInBounds_toArray, List.set_cons_zero, List.set_cons_succ]
      refine wpAnyH_take (i := 27) (oi := { dst := some 100, op := Op.binOp BinOp.neq 3 (.tmp 99) (.const (Value.int IntKind.i64 0)) 3, type := 4, pos := "law.go:75", after := #[{ on := 26, ground := .data }, { on := 25, ground := .guard }], guard := some (25, true) }) (v := ?_) rfl (by kernel_rfl) (by kernel_rfl) (by kernel_rfl) (fun _ _ _ h => h) (Or.inl ⟨by rfl, ?_⟩) qS ?_
      rotate_left
      · intro w hSw
        (try dsimp only at hSw)
        go_simp
        all_goals with_reducible rfl
      simp only [Act.put, List.setIfInBounds_toArray, List.set_cons_zero, List.set_cons_succ]
      refine wpAnyH_take (i := 28) (oi := { dst := some 101, op := Op.move (.tmp 100), type := 4, pos := "law.go:75", after := #[{ on := 27, ground := .data }, { on := 25, ground := .chain }, { on := 25, ground := .guard }], guard := some (25, true) }) (v := ?_) rfl (by kernel_rfl) (by kernel_rfl) (by kernel_rfl) (fun _ _ _ h => h) (Or.inl ⟨by rfl, ?_⟩) qS ?_
      rotate_left
      · intro w hSw
        (try dsimp only at hSw)
        go_simp
        all_goals with_reducible rfl
      simp only [Act.put, List.setIfInBounds_toArray, List.set_cons_zero, List.set_cons_succ]
      refine wpAnyH_take (i := 29) (oi := { dst := some 102, op := Op.load 38 (.tmp 8), type := 38, pos := "law.go:75", after := #[{ on := 28, ground := .guard }], guard := some (28, false) }) (v := undef) rfl (by kernel_rfl) (by kernel_rfl) (by kernel_rfl) (fun _ _ _ h => h) (Or.inr ⟨by rfl, rfl⟩) qS ?_
      simp only [Act.put, List.setIfInBounds_toArray, List.set_cons_zero, List.set_cons_succ]
      refine wpAnyH_take (i := 30) (oi := { dst := some 103, op := Op.call { callee := Callee.value (.func 16), args := #[.tmp 102], argTypes := #[38] }, type := 28, pos := "law.go:75", after := #[{ on := 29, ground := .data }, { on := 28, ground := .chain }, { on := 28, ground := .guard }], guard := some (28, false) }) (v := undef) rfl (by kernel_rfl) (by kernel_rfl) (by kernel_rfl) (fun _ _ _ h => h) (Or.inr ⟨by rfl, rfl⟩) qS ?_
      simp only [Act.put, List.setIfInBounds_toArray, List.set_cons_zero, List.set_cons_succ]
      refine wpAnyH_take (i := 31) (oi := { dst := some 104, op := Op.convert 28 9 (.tmp 103), type := 9, pos := "law.go:75", after := #[{ on := 30, ground := .data }, { on := 28, ground := .guard }], guard := some (28, false) }) (v := undef) rfl (by kernel_rfl) (by kernel_rfl) (by kernel_rfl) (fun _ _ _ h => h) (Or.inr ⟨by rfl, rfl⟩) qS ?_
      simp only [Act.put, List.setIfInBounds_toArray, List.set_cons_zero, List.set_cons_succ]
      refine wpAnyH_take (i := 32) (oi := { dst := some 105, op := Op.move (.tmp 1), type := 28, pos := "law.go:75", after := #[{ on := 28, ground := .guard }], guard := some (28, false) }) (v := undef) rfl (by kernel_rfl) (by kernel_rfl) (by kernel_rfl) (fun _ _ _ h => h) (Or.inr ⟨by rfl, rfl⟩) qS ?_
      simp only [Act.put, List.setIfInBounds_toArray, List.set_cons_zero, List.set_cons_succ]
      refine wpAnyH_take (i := 33) (oi := { dst := some 106, op := Op.convert 28 9 (.tmp 105), type := 9, pos := "law.go:75", after := #[{ on := 32, ground := .data }, { on := 28, ground := .guard }], guard := some (28, false) }) (v := undef) rfl (by kernel_rfl) (by kernel_rfl) (by kernel_rfl) (fun _ _ _ h => h) (Or.inr ⟨by rfl, rfl⟩) qS ?_
      simp only [Act.put, List.setIfInBounds_toArray, List.set_cons_zero, List.set_cons_succ]
      refine wpAnyH_take (i := 34) (oi := { dst := some 107, op := Op.binOp BinOp.eql 9 (.tmp 104) (.tmp 106) 9, type := 4, pos := "law.go:75", after := #[{ on := 31, ground := .data }, { on := 33, ground := .data }, { on := 28, ground := .guard }], guard := some (28, false) }) (v := undef) rfl (by kernel_rfl) (by kernel_rfl) (by kernel_rfl) (fun _ _ _ h => h) (Or.inr ⟨by rfl, rfl⟩) qS ?_
      simp only [Act.put, List.setIfInBounds_toArray, List.set_cons_zero, List.set_cons_succ]
      refine wpAnyH_take (i := 35) (oi := { dst := some 108, op := Op.pick (.tmp 101) (.const (Value.bool true)) (.tmp 107), type := 4, pos := "law.go:75", after := #[{ on := 28, ground := .data }, { on := 34, ground := .data }, { on := 25, ground := .guard }], guard := some (25, true) }) (v := ?_) rfl (by kernel_rfl) (by kernel_rfl) (by kernel_rfl) (fun _ _ _ h => h) (Or.inl ⟨by rfl, ?_⟩) qS ?_
      rotate_left
      · intro w hSw
        (try dsimp only at hSw)
        go_simp
        all_goals with_reducible rfl
      simp only [Act.put, List.setIfInBounds_toArray, List.set_cons_zero, List.set_cons_succ]
      refine wpAnyH_take (i := 36) (oi := { dst := some 109, op := Op.pick (.tmp 98) (.tmp 108) (.const (Value.bool false)), type := 4, pos := "law.go:75", after := #[{ on := 25, ground := .data }, { on := 35, ground := .data }], guard := none }) (v := ?_) rfl (by kernel_rfl) (by kernel_rfl) (by kernel_rfl) (fun _ _ _ h => h) (Or.inl ⟨by rfl, ?_⟩) qS ?_
      rotate_left
      · intro w hSw
        (try dsimp only at hSw)
        go_simp
        all_goals with_reducible rfl
      simp only [Act.put, List.setIfInBounds_toArray, List.set_cons_zero, List.set_cons_succ]
      refine wpAnyH_take (i := 37) (oi := { dst := some 110, op := Op.move (.tmp 109), type := 4, pos := "law.go:75", after := #[{ on := 36, ground := .data }, { on := 30, ground := .chain }], guard := none }) (v := ?_) rfl (by kernel_rfl) (by kernel_rfl) (by kernel_rfl) (fun _ _ _ h => h) (Or.inl ⟨by rfl, ?_⟩) qS ?_
      rotate_left
      · intro w hSw
        (try dsimp only at hSw)
        go_simp
        all_goals with_reducible rfl
      simp only [Act.put, List.setIfInBounds_toArray, List.set_cons_zero, List.set_cons_succ]
      refine wpAnyH_take (i := 38) (oi := { dst := some 111, op := Op.move (.tmp 12), type := 28, pos := "law.go:75", after := #[{ on := 37, ground := .guard }], guard := some (37, true) }) (v := ?_) rfl (by kernel_rfl) (by kernel_rfl) (by kernel_rfl) (fun _ _ _ h => h) (Or.inl ⟨by rfl, ?_⟩) qS ?_
      rotate_left
      · intro w hSw
        (try dsimp only at hSw)
        go_simp
        all_goals with_reducible rfl
      simp only [Act.put, List.setIfInBounds_toArray, List.set_cons_zero, List.set_cons_succ]
      refine wpAnyH_take (i := 39) (oi := { dst := some 112, op := Op.convert 28 9 (.tmp 111), type := 9, pos := "law.go:75", after := #[{ on := 38, ground := .data }, { on := 37, ground := .guard }], guard := some (37, true) }) (v := ?_) rfl (by kernel_rfl) (by kernel_rfl) (by kernel_rfl) (fun _ _ _ h => h) (Or.inl ⟨by rfl, ?_⟩) qS ?_
      rotate_left
      · intro w hSw
        (try dsimp only at hSw)
        go_simp
        all_goals with_reducible rfl
      simp only [Act.put, List.setIfInBounds_toArray, List.set_cons_zero, List.set_cons_succ]
      refine wpAnyH_take (i := 40) (oi := { dst := some 113, op := Op.move (.tmp 14), type := 28, pos := "law.go:75", after := #[{ on := 37, ground := .guard }], guard := some (37, true) }) (v := ?_) rfl (by kernel_rfl) (by kernel_rfl) (by kernel_rfl) (fun _ _ _ h => h) (Or.inl ⟨by rfl, ?_⟩) qS ?_
      rotate_left
      · intro w hSw
        (try dsimp only at hSw)
        go_simp
        all_goals with_reducible rfl
      simp only [Act.put, List.setIfInBounds_toArray, List.set_cons_zero, List.set_cons_succ]
      refine wpAnyH_take (i := 41) (oi := { dst := some 114, op := Op.convert 28 9 (.tmp 113), type := 9, pos := "law.go:75", after := #[{ on := 40, ground := .data }, { on := 37, ground := .guard }], guard := some (37, true) }) (v := ?_) rfl (by kernel_rfl) (by kernel_rfl) (by kernel_rfl) (fun _ _ _ h => h) (Or.inl ⟨by rfl, ?_⟩) qS ?_
      rotate_left
      · intro w hSw
        (try dsimp only at hSw)
        go_simp
        all_goals with_reducible rfl
      simp only [Act.put, List.setIfInBounds_toArray, List.set_cons_zero, List.set_cons_succ]
      refine wpAnyH_take (i := 42) (oi := { dst := some 115, op := Op.binOp BinOp.eql 9 (.tmp 112) (.tmp 114) 9, type := 4, pos := "law.go:75", after := #[{ on := 39, ground := .data }, { on := 41, ground := .data }, { on := 37, ground := .guard }], guard := some (37, true) }) (v := ?_) rfl (by kernel_rfl) (by kernel_rfl) (by kernel_rfl) (fun _ _ _ h => h) (Or.inl ⟨by rfl, ?_⟩) qS ?_
      rotate_left
      · intro w hSw
        (try dsimp only at hSw)
        go_simp
        all_goals with_reducible rfl
      simp only [Act.put, List.setIfInBounds_toArray, List.set_cons_zero, List.set_cons_succ]
      refine wpAnyH_take (i := 43) (oi := { dst := some 116, op := Op.pick (.tmp 110) (.tmp 115) (.const (Value.bool false)), type := 4, pos := "law.go:75", after := #[{ on := 37, ground := .data }, { on := 42, ground := .data }], guard := none }) (v := ?_) rfl (by kernel_rfl) (by kernel_rfl) (by kernel_rfl) (fun _ _ _ h => h) (Or.inl ⟨by rfl, ?_⟩) qS ?_
      rotate_left
      · intro w hSw
        (try dsimp only at hSw)
        go_simp
        all_goals with_reducible rfl
      simp only [Act.put, List.setIfInBounds_toArray, List.set_cons_zero, List.set_cons_succ]
      refine wpAnyH_take (i := 44) (oi := { dst := some 117, op := Op.move (.tmp 116), type := 4, pos := "law.go:75", after := #[{ on := 43, ground := .data }, { on := 37, ground := .chain }], guard := none }) (v := ?_) rfl (by kernel_rfl) (by kernel_rfl) (by kernel_rfl) (fun _ _ _ h => h) (Or.inl ⟨by rfl, ?_⟩) qS ?_
      rotate_left
      · intro w hSw
        (try dsimp only at hSw)
        go_simp
        all_goals with_reducible rfl
      simp only [Act.put, List.setIfInBounds_toArray, List.set_cons_zero, List.set_cons_succ]
      refine wpAnyH_take (i := 45) (oi := { dst := some 118, op := Op.move (.tmp 13), type := 29, pos := "law.go:75", after := #[{ on := 44, ground := .guard }], guard := some (44, true) }) (v := ?_) rfl (by kernel_rfl) (by kernel_rfl) (by kernel_rfl) (fun _ _ _ h => h) (Or.inl ⟨by rfl, ?_⟩) qS ?_
      rotate_left
      · intro w hSw
        (try dsimp only at hSw)
        go_simp
        all_goals with_reducible rfl
      simp only [Act.put, List.setIfInBounds_toArray, List.set_cons_zero, List.set_cons_succ]
      refine wpAnyH_take (i := 46) (oi := { dst := some 119, op := Op.move (.tmp 15), type := 3, pos := "law.go:75", after := #[{ on := 44, ground := .guard }], guard := some (44, true) }) (v := ?_) rfl (by kernel_rfl) (by kernel_rfl) (by kernel_rfl) (fun _ _ _ h => h) (Or.inl ⟨by rfl, ?_⟩) qS ?_
      rotate_left
      · intro w hSw
        (try dsimp only at hSw)
        go_simp
        all_goals with_reducible rfl
      simp only [Act.put, List.setIfInBounds_toArray, List.set_cons_zero, List.set_cons_succ]
      refine wpAnyH_take (i := 47) (oi := { dst := some 120, op := Op.binOp BinOp.eql 3 (.tmp 118) (.tmp 119) 3, type := 4, pos := "law.go:75", after := #[{ on := 45, ground := .data }, { on := 46, ground := .data }, { on := 44, ground := .guard }], guard := some (44, true) }) (v := ?_) rfl (by kernel_rfl) (by kernel_rfl) (by kernel_rfl) (fun _ _ _ h => h) (Or.inl ⟨by rfl, ?_⟩) qS ?_
      rotate_left
      · intro w hSw
        (try dsimp only at hSw)
        go_simp
        all_goals with_reducible rfl
      simp only [Act.put, List.setIfInBounds_toArray, List.set_cons_zero, List.set_cons_succ]
      refine wpAnyH_take (i := 48) (oi := { dst := some 121, op := Op.pick (.tmp 117) (.tmp 120) (.const (Value.bool false)), type := 4, pos := "law.go:75", after := #[{ on := 44, ground := .data }, { on := 47, ground := .data }], guard := none }) (v := ?_) rfl (by kernel_rfl) (by kernel_rfl) (by kernel_rfl) (fun _ _ _ h => h) (Or.inl ⟨by rfl, ?_⟩) qS ?_
      rotate_left
      · intro w hSw
        (try dsimp only at hSw)
        go_simp
        all_goals with_reducible rfl
      simp only [Act.put, List.setIfInBounds_toArray, List.set_cons_zero, List.set_cons_succ]
      refine wpAnyH_take (i := 49) (oi := { dst := some 4, op := Op.assign (.tmp 121), type := 4, pos := "law.go:75", after := #[{ on := 48, ground := .data }, { on := 44, ground := .chain }, { on := 0, ground := .phase }, { on := 1, ground := .phase }, { on := 2, ground := .phase }, { on := 3, ground := .phase }, { on := 4, ground := .phase }, { on := 5, ground := .phase }, { on := 6, ground := .phase }, { on := 7, ground := .phase }, { on := 8, ground := .phase }, { on := 9, ground := .phase }, { on := 10, ground := .phase }, { on := 11, ground := .phase }, { on := 12, ground := .phase }, { on := 13, ground := .phase }, { on := 14, ground := .phase }, { on := 15, ground := .phase }, { on := 16, ground := .phase }, { on := 17, ground := .phase }, { on := 18, ground := .phase }, { on := 19, ground := .phase }, { on := 20, ground := .phase }, { on := 21, ground := .phase }, { on := 22, ground := .phase }, { on := 23, ground := .phase }, { on := 24, ground := .phase }, { on := 25, ground := .phase }, { on := 26, ground := .phase }, { on := 27, ground := .phase }, { on := 28, ground := .phase }, { on := 29, ground := .phase }, { on := 30, ground := .phase }, { on := 31, ground := .phase }, { on := 32, ground := .phase }, { on := 33, ground := .phase }, { on := 34, ground := .phase }, { on := 35, ground := .phase }, { on := 36, ground := .phase }, { on := 37, ground := .phase }, { on := 38, ground := .phase }, { on := 39, ground := .phase }, { on := 40, ground := .phase }, { on := 41, ground := .phase }, { on := 42, ground := .phase }, { on := 43, ground := .phase }, { on := 44, ground := .phase }, { on := 45, ground := .phase }, { on := 46, ground := .phase }, { on := 47, ground := .phase }, { on := 48, ground := .phase }], guard := none }) (v := ?_) rfl (by kernel_rfl) (by kernel_rfl) (by kernel_rfl) (fun _ _ _ h => h) (Or.inl ⟨by rfl, ?_⟩) qS ?_
      rotate_left
      · intro w hSw
        (try dsimp only at hSw)
        go_simp
        all_goals with_reducible rfl
      simp only [Act.put, List.setIfInBounds_toArray, List.set_cons_zero, List.set_cons_succ]
      refine wpAnyH_done (by kernel_rfl) ?_ _
      have FIN : Hid (TrueBelow w (.returned (.bool true)) wA) := Lib.hid ⟨rfl, HBW.out.trans (qS.1.mono HBW.out.size)⟩
      clear hcA l2 m2 l6 m6 l8 m8 l10 m10 c5 cb c12 c14 ea qS
      go_wp2
      go_ret
      exact FIN.out
end Go.Proofs.Ytehkgcmdndehaaa
