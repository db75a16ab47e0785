/- Part of the proof: merged texts. -/
import Derived.Test.YtehkgcmdndehaaaDoorGPRA21
namespace Go.Proofs.YtehkgcmdndehaaaDoor
set_option linter.unusedSimpArgs false
set_option linter.unusedVariables false
open Go.RowKit

theorem flat_step {α β : Type} (f : α → List β) (ls : List α) (k : Nat) (l : α) (h : ls[k]? = some l) : ((ls.take k).flatMap f).length + (f l).length ≤ (ls.flatMap f).length := by
  have := flat_take f ls k l h
  have h2 := flat_take_le f ls (k + 1)
  rw [this, List.length_append] at h2
  exact h2
theorem flat_len {α β : Type} (f : α → List β) (hf : ∀ x, 1 ≤ (f x).length) : ∀ ls : List α, ls.length ≤ (ls.flatMap f).length
  | [] => Nat.le_refl _
  | x :: r => by
    have := flat_len f hf r
    have := hf x
    rw [List.flatMap_cons, List.length_append, List.length_cons]
    omega
def encHV (h : HoldD × Value) : List UInt8 := encHold h.1
theorem encLot_pos (x : LotD) : 1 ≤ (encLot x).length := by simp [encLot, encInts_length, LotD.nums]
theorem encHV_length (x : HoldD × Value) : (encHV x).length = 16 * x.1.parts.length + 25 := by
  have h16 := encParts_length x.1.parts
  simp only [encHV, encHold, List.length_append, List.length_singleton, encInts_length, List.length_cons, List.length_nil, h16]
  omega
theorem encHV_pos (x : HoldD × Value) : 1 ≤ (encHV x).length := by simp [encHV, encHold]; omega
theorem encEntry_pos (x : EntryD) : 1 ≤ (encEntry x).length := by simp [encEntry, encInts_length]; omega
def lotZ : LotD := ⟨0, 0, 0, 0, 0, 0, 0, 0, 0⟩
def holdZ : HoldD := ⟨0, [], 0, 0⟩
def entryZ : EntryD := ⟨0, ansZ⟩
theorem lot_one_cells (a : LotD) : a.cells.all (·.oneCell') = true := by
  unfold LotD.cells
  rw [Array.all_eq_true_iff_forall_mem]
  intro x hx
  simp only [List.mem_toArray, List.mem_cons, List.not_mem_nil, or_false] at hx
  rcases hx with rfl | rfl | rfl | rfl | rfl | rfl | rfl | rfl | rfl <;> rfl
theorem hold_one_cells (a : HoldD) (x : Option Addr) (n c : Nat) : (a.cells (.slice x n c)).all (·.oneCell') = true := by
  unfold HoldD.cells
  rw [Array.all_eq_true_iff_forall_mem]
  intro x hx
  simp only [List.mem_toArray, List.mem_cons, List.not_mem_nil, or_false] at hx
  rcases hx with rfl | rfl | rfl | rfl <;> rfl
theorem entry_one_cells (a : EntryD) : a.cells.all (·.oneCell') = true := by
  unfold EntryD.cells
  rw [Array.all_eq_true_iff_forall_mem]
  intro x hx
  simp only [List.mem_toArray, List.mem_cons, List.not_mem_nil, or_false] at hx
  rcases hx with rfl | rfl | rfl | rfl | rfl | rfl | rfl | rfl | rfl | rfl | rfl | rfl | rfl | rfl <;> rfl
/-- A slice that lies apart from the record and from its row's bytes. -/
def Ext (rb : Nat) (v u : Value) : Prop := liveB u ≠ some rb ∧ ∀ k, liveB u = some k → v.ownBlock ≠ some k
def K59 (c d : List Value) : Prop := ∀ j : Nat, 59 ≤ j → c[j]? = d[j]?
/-- As RWPost, but the record's cells ahead of the account's may be others. -/
def RWPostA (w : World) (rb : Nat) (v : Value) (xs : List UInt8) (cs : List Value) (e : Ending) (w' : World) : Prop :=
  ∃ v' cs', e = .returned (.tuple #[]) ∧ RW w' rb v' xs cs' ∧ Gr w w' rb v v' ∧ K59 cs' cs
structure AccIn (w : World) (rb : Nat) (v : Value) (a : AccD) (lv hv wv : Value) (hs : List (HoldD × Value)) : Prop where
  lots : RdLots w lv a.lots
  holds : RdHolds w hv hs
  win : RdWin w wv a.window
  heq : hs.map (·.1) = a.holds
  el : Ext rb v lv
  eh : Ext rb v hv
  ew : Ext rb v wv
  ep : ∀ h ∈ hs, Ext rb v h.2
  short : ∀ e ∈ a.window, e.ans.stmt.name.size ≤ 255
theorem Ext.on {w w' : World} {rb : Nat} {v v' u : Value} {n : Nat} {xs : List (List Value)} (h : Ext rb v u) (hi : Items w u n xs) (g : Gr w w' rb v v') : Ext rb v' u :=
  ⟨h.1, fun k hk => g.other (Items.own_lt hi k hk) (h.2 k hk)⟩
theorem AccIn.on {w w' : World} {rb : Nat} {v v' : Value} {a : AccD} {lv hv wv : Value} {hs : List (HoldD × Value)} (h : AccIn w rb v a lv hv wv hs) (g : Gr w w' rb v v') : AccIn w' rb v' a lv hv wv hs :=
  ⟨g.items h.lots h.el.1 h.el.2, ⟨g.items h.holds.1 h.eh.1 h.eh.2, fun x hx => g.items (h.holds.2 x hx) (h.ep x hx).1 (h.ep x hx).2⟩, g.items h.win h.ew.1 h.ew.2, h.heq, h.el.on h.lots g, h.eh.on h.holds.1 g, h.ew.on h.win g, fun x hx => (h.ep x hx).on (h.holds.2 x hx) g, h.short⟩
theorem acc_cell {w : World} {rb : Nat} {v : Value} {xs : List UInt8} {cs cs0 : List Value} {a : AccD} {lv hv wv : Value} (h : RW w rb v xs cs) (hk : K59 cs cs0) (hp : ∀ (j : Nat) (u : Value), (a.cells lv hv wv).toList[j]? = some u → cs0[59 + j]? = some u)
    (j : Nat) (u : Value) (hj : (a.cells lv hv wv).toList[j]? = some u) : w.cell? ⟨rb, 61 + j, none⟩ = some u :=
  h.cell (61 + j) (by omega) (by rw [show 61 + j - 2 = 59 + j by omega, hk _ (by omega)]; exact hp j u hj)

set_option maxHeartbeats 3200000 in
set_option maxRecDepth 100000 in
theorem rw_lists (rb : Nat) (v : Value) (xs : List UInt8) (cs : List Value) (a : AccD) (lv hv wv : Value) (hs : List (HoldD × Value)) (w : World) (h : RW w rb v xs cs) (hp : ∀ (j : Nat) (u : Value), (a.cells lv hv wv).toList[j]? = some u → cs[59 + j]? = some u) (hin : AccIn w rb v a lv hv wv hs) (hl : xs.length + (encLists a).length + 1000 ≤ 1000000) :
    Calls Tryd.prog 59 #[.pointer (some ⟨rb, 0, none⟩)] w (RWPostA w rb v (xs ++ encLists a) cs) := by
  have e1 : hs.flatMap encHV = encHolds a.holds := by rw [← hin.heq, encHolds, List.flatMap_map]; rfl
  have B0 : Hid (xs.length + 1 + (a.lots.flatMap encLot).length + 16 + 1 + (hs.flatMap encHV).length + 1 + (a.window.flatMap encEntry).length + 1000 ≤ 1000000) := Lib.hid (by
    rw [e1]
    simp only [encLists, encLots, encEntries, List.length_append, List.length_singleton, encInts_length, List.length_cons, List.length_nil] at hl
    omega)
  have S0 : Hid (RW w rb v xs cs ∧ K59 cs cs ∧ Gr w w rb v v ∧ AccIn w rb v a lv hv wv hs) := Lib.hid ⟨h, fun _ _ => rfl, Gr.refl _ _ _, hin⟩
  have HP := Lib.hid hp
  clear h hp hin hl e1
  go_enter Tryd.func59, Tryd.ntmps59
  have hlen0 : ∃ sa sc, lv = .slice sa a.lots.length sc := by
    obtain ⟨sa, sc, e⟩ := Items.len S0.out.2.2.2.lots
    exact ⟨sa, sc, by rw [e]; simp⟩
  obtain ⟨sa0, sc0, hsv0⟩ := hlen0
  have c0 : w.cell? ⟨rb, 76, none⟩ = some (.slice sa0 a.lots.length sc0) := by
    rw [← hsv0]
    exact acc_cell S0.out.1 S0.out.2.1 HP.out 15 _ rfl
  have hrb0 := S0.out.1.lt
  have HSV0 := Lib.hid hsv0
  clear hsv0
  go_wp2
  go_region_with (go_at_call 55; go_must (refine (rw_byte rb v _ cs _ _ (S0.out.1.below (Below.refl _ _).drew) (by have := B0.out; omega)).mono ?_); rintro e wb0 ⟨vb0, rfl, hr, hg⟩; have hg2 := hg.undrew; clear hg)
  have T0 : Hid (RW wb0 rb vb0 (xs ++ [byteOf a.lots.length]) cs ∧ K59 cs cs ∧ Gr w wb0 rb v vb0 ∧ AccIn wb0 rb vb0 a lv hv wv hs) := Lib.hid ⟨hr, S0.out.2.1, S0.out.2.2.1.trans hg2, S0.out.2.2.2.on hg2⟩
  clear hr hg2 c0 S0
  have c0 : wb0.cell? ⟨rb, 76, none⟩ = some (.slice sa0 a.lots.length sc0) := by
    rw [← HSV0.out]
    exact acc_cell T0.out.1 T0.out.2.1 HP.out 15 _ rfl
  have hrbb0 := T0.out.1.lt
  go_wp2
  clear c0
  obtain ⟨ys0, hys0⟩ : ∃ y, y = xs ++ [byteOf a.lots.length] := ⟨_, rfl⟩
  rw [← hys0] at T0
  have HYS0 := Lib.hid hys0
  have BY0 : Hid (ys0.length = xs.length + 1) := Lib.hid (by rw [hys0, List.length_append]; rfl)
  clear hys0
  go_loopg [3, 24] a.lots.length (fun g s3 s24 wr => ∃ (k : Nat) (vr : Value) (cr : List Value), k + g = a.lots.length ∧ s24 = .int .i64 k ∧ RW wr rb vr (ys0 ++ (a.lots.take k).flatMap encLot) cr ∧ K59 cr cs ∧ Gr wb0 wr rb vb0 vr)
  case atStart => exact ⟨0, vb0, cs, by omega, rfl, by simpa using T0.out.1, T0.out.2.1, Gr.refl _ _ _⟩
  case round =>
    obtain ⟨k, vr, cr, hkg, rfl, hrow, hkeep, hput⟩ := hrel
    have hsz := hput.size
    cases gk with
    | zero =>
      have hk : ¬ ((k : Int) < (a.lots.length : Int)) := by omega
      have S1 : Hid (RW wr rb vr (ys0 ++ a.lots.flatMap encLot) cr ∧ K59 cr cs ∧ Gr w wr rb v vr ∧ AccIn wr rb vr a lv hv wv hs) := Lib.hid (by
        rw [List.take_of_length_le (by omega)] at hrow
        exact ⟨hrow, hkeep, T0.out.2.2.1.trans hput, T0.out.2.2.2.on hput⟩)
      obtain ⟨w1, rfl⟩ : ∃ x : World, x = wr := ⟨_, rfl⟩
      obtain ⟨v1, rfl⟩ : ∃ x : Value, x = vr := ⟨_, rfl⟩
      obtain ⟨c1, rfl⟩ : ∃ x : List Value, x = cr := ⟨_, rfl⟩
      obtain ⟨z1, hz1⟩ : ∃ z, z = ys0 ++ a.lots.flatMap encLot := ⟨_, rfl⟩
      rw [← hz1] at S1
      have HZ1 := Lib.hid hz1
      have B1 : Hid (z1.length + 16 + 1 + (hs.flatMap encHV).length + 1 + (a.window.flatMap encEntry).length + 1000 ≤ 1000000) := Lib.hid (by rw [hz1, List.length_append]; have := BY0.out; have := B0.out; omega)
      clear hrow hkeep hput hsz hkg hz1 hrbb0 hrb0
      have c77 : w1.cell? ⟨rb, 77, none⟩ = some (.int .i64 a.next) := acc_cell S1.out.1 S1.out.2.1 HP.out 16 _ rfl
      have c78 : w1.cell? ⟨rb, 78, none⟩ = some (.int .i64 a.over) := acc_cell S1.out.1 S1.out.2.1 HP.out 17 _ rfl
      have hrb1 := S1.out.1.lt
      go_upto_region 7 with (fail)
      go_cut [] (fun wx => ∃ v2 : Value, RW wx rb v2 (z1 ++ encInts [a.next, a.over]) c1 ∧ Gr w1 wx rb v1 v2)
      case first =>
        go_region_with (go_at_call 56; go_must (refine (rw_ints rb _ 2 _ _ _ _ _ [a.next, a.over] _ _ S1.out.1 (by have := B1.out; simp only [List.length_cons, List.length_nil]; omega) (by simp) rfl (below_alloc _ _).drew (Nat.le_refl _) (heap_alloc_new _ _) rfl).mono ?_); rintro e w2 ⟨v2, rfl, hr2, hg2⟩)
        all_goals (try go_wp2)
        all_goals go_meet
        all_goals exact ⟨v2, hr2, hg2⟩
      case rest =>
        obtain ⟨w2, rfl⟩ : ∃ x : World, x = wc := ⟨_, rfl⟩
        obtain ⟨v2, hr2, hg2⟩ := hcut
        obtain ⟨z2, hz2⟩ : ∃ z, z = z1 ++ encInts [a.next, a.over] := ⟨_, rfl⟩
        rw [← hz2] at hr2
        have HZ2 := Lib.hid hz2
        have S2 : Hid (RW w2 rb v2 z2 c1 ∧ K59 c1 cs ∧ Gr w w2 rb v v2 ∧ AccIn w2 rb v2 a lv hv wv hs) := Lib.hid ⟨hr2, S1.out.2.1, S1.out.2.2.1.trans hg2, S1.out.2.2.2.on hg2⟩
        have B2 : Hid (z2.length + 1 + (hs.flatMap encHV).length + 1 + (a.window.flatMap encEntry).length + 1000 ≤ 1000000) := Lib.hid (by rw [hz2, List.length_append, encInts_length]; have := B1.out; simp only [List.length_cons, List.length_nil]; omega)
        clear hr2 hg2 c77 c78 hrb1 hz2 S1 hk
        have hlen2 : ∃ sa sc, hv = .slice sa hs.length sc := by
          obtain ⟨sa, sc, e⟩ := Items.len S2.out.2.2.2.holds.1
          exact ⟨sa, sc, by rw [e]; simp⟩
        obtain ⟨sa2, sc2, hsv2⟩ := hlen2
        have c2 : w2.cell? ⟨rb, 79, none⟩ = some (.slice sa2 hs.length sc2) := by
          rw [← hsv2]
          exact acc_cell S2.out.1 S2.out.2.1 HP.out 18 _ rfl
        have hrb2 := S2.out.1.lt
        have HSV2 := Lib.hid hsv2
        clear hsv2
        go_wp2
        go_region_with (go_at_call 55; go_must (refine (rw_byte rb v2 _ c1 _ _ (S2.out.1.below (Below.refl _ _).drew) (by have := B2.out; omega)).mono ?_); rintro e wb2 ⟨vb2, rfl, hr, hg⟩; have hg2 := hg.undrew; clear hg)
        have T2 : Hid (RW wb2 rb vb2 (z2 ++ [byteOf hs.length]) c1 ∧ K59 c1 cs ∧ Gr w wb2 rb v vb2 ∧ AccIn wb2 rb vb2 a lv hv wv hs) := Lib.hid ⟨hr, S2.out.2.1, S2.out.2.2.1.trans hg2, S2.out.2.2.2.on hg2⟩
        clear hr hg2 c2 S2
        have c2 : wb2.cell? ⟨rb, 79, none⟩ = some (.slice sa2 hs.length sc2) := by
          rw [← HSV2.out]
          exact acc_cell T2.out.1 T2.out.2.1 HP.out 18 _ rfl
        have hrbb2 := T2.out.1.lt
        go_wp2
        clear c2
        obtain ⟨ys2, hys2⟩ : ∃ y, y = z2 ++ [byteOf hs.length] := ⟨_, rfl⟩
        rw [← hys2] at T2
        have HYS2 := Lib.hid hys2
        have BY2 : Hid (ys2.length = z2.length + 1) := Lib.hid (by rw [hys2, List.length_append]; rfl)
        clear hys2
        go_loopg [5, 66] hs.length (fun g s5 s66 wr => ∃ (k : Nat) (vr : Value) (cr : List Value), k + g = hs.length ∧ s66 = .int .i64 k ∧ RW wr rb vr (ys2 ++ (hs.take k).flatMap encHV) cr ∧ K59 cr cs ∧ Gr wb2 wr rb vb2 vr)
        case atStart => exact ⟨0, vb2, c1, by omega, rfl, by simpa using T2.out.1, T2.out.2.1, Gr.refl _ _ _⟩
        case round =>
          obtain ⟨k, vr, cr, hkg, rfl, hrow, hkeep, hput⟩ := hrel
          have hsz := hput.size
          cases gk with
          | zero =>
            have hk : ¬ ((k : Int) < (hs.length : Int)) := by omega
            have S3 : Hid (RW wr rb vr (ys2 ++ hs.flatMap encHV) cr ∧ K59 cr cs ∧ Gr w wr rb v vr ∧ AccIn wr rb vr a lv hv wv hs) := Lib.hid (by
              rw [List.take_of_length_le (by omega)] at hrow
              exact ⟨hrow, hkeep, T2.out.2.2.1.trans hput, T2.out.2.2.2.on hput⟩)
            obtain ⟨w3, rfl⟩ : ∃ x : World, x = wr := ⟨_, rfl⟩
            obtain ⟨v3, rfl⟩ : ∃ x : Value, x = vr := ⟨_, rfl⟩
            obtain ⟨c3, rfl⟩ : ∃ x : List Value, x = cr := ⟨_, rfl⟩
            obtain ⟨z3, hz3⟩ : ∃ z, z = ys2 ++ hs.flatMap encHV := ⟨_, rfl⟩
            rw [← hz3] at S3
            have HZ3 := Lib.hid hz3
            have B3 : Hid (z3.length + 1 + (a.window.flatMap encEntry).length + 1000 ≤ 1000000) := Lib.hid (by rw [hz3, List.length_append]; have := BY2.out; have := B2.out; omega)
            clear hrow hkeep hput hsz hkg hz3 hrbb2 hrb2
            have hlen4 : ∃ sa sc, wv = .slice sa a.window.length sc := by
              obtain ⟨sa, sc, e⟩ := Items.len S3.out.2.2.2.win
              exact ⟨sa, sc, by rw [e]; simp⟩
            obtain ⟨sa4, sc4, hsv4⟩ := hlen4
            have c4 : w3.cell? ⟨rb, 80, none⟩ = some (.slice sa4 a.window.length sc4) := by
              rw [← hsv4]
              exact acc_cell S3.out.1 S3.out.2.1 HP.out 19 _ rfl
            have hrb4 := S3.out.1.lt
            have HSV4 := Lib.hid hsv4
            clear hsv4
            go_wp2
            go_region_with (go_at_call 55; go_must (refine (rw_byte rb v3 _ c3 _ _ (S3.out.1.below (Below.refl _ _).drew) (by have := B3.out; omega)).mono ?_); rintro e wb4 ⟨vb4, rfl, hr, hg⟩; have hg2 := hg.undrew; clear hg)
            have T4 : Hid (RW wb4 rb vb4 (z3 ++ [byteOf a.window.length]) c3 ∧ K59 c3 cs ∧ Gr w wb4 rb v vb4 ∧ AccIn wb4 rb vb4 a lv hv wv hs) := Lib.hid ⟨hr, S3.out.2.1, S3.out.2.2.1.trans hg2, S3.out.2.2.2.on hg2⟩
            clear hr hg2 c4 S3
            have c4 : wb4.cell? ⟨rb, 80, none⟩ = some (.slice sa4 a.window.length sc4) := by
              rw [← HSV4.out]
              exact acc_cell T4.out.1 T4.out.2.1 HP.out 19 _ rfl
            have hrbb4 := T4.out.1.lt
            go_wp2
            clear c4
            obtain ⟨ys4, hys4⟩ : ∃ y, y = z3 ++ [byteOf a.window.length] := ⟨_, rfl⟩
            rw [← hys4] at T4
            have HYS4 := Lib.hid hys4
            have BY4 : Hid (ys4.length = z3.length + 1) := Lib.hid (by rw [hys4, List.length_append]; rfl)
            clear hys4
            go_loopg [7, 93] a.window.length (fun g s7 s93 wr => ∃ (k : Nat) (vr : Value) (cr : List Value), k + g = a.window.length ∧ s93 = .int .i64 k ∧ RW wr rb vr (ys4 ++ (a.window.take k).flatMap encEntry) cr ∧ K59 cr cs ∧ Gr wb4 wr rb vb4 vr)
            case atStart => exact ⟨0, vb4, c3, by omega, rfl, by simpa using T4.out.1, T4.out.2.1, Gr.refl _ _ _⟩
            case round =>
              obtain ⟨k, vr, cr, hkg, rfl, hrow, hkeep, hput⟩ := hrel
              have hsz := hput.size
              cases gk with
              | zero =>
                have hk : ¬ ((k : Int) < (a.window.length : Int)) := by omega
                have S5 : Hid (RW wr rb vr (ys4 ++ a.window.flatMap encEntry) cr ∧ K59 cr cs ∧ Gr w wr rb v vr ∧ AccIn wr rb vr a lv hv wv hs) := Lib.hid (by
                  rw [List.take_of_length_le (by omega)] at hrow
                  exact ⟨hrow, hkeep, T4.out.2.2.1.trans hput, T4.out.2.2.2.on hput⟩)
                obtain ⟨w5, rfl⟩ : ∃ x : World, x = wr := ⟨_, rfl⟩
                obtain ⟨v5, rfl⟩ : ∃ x : Value, x = vr := ⟨_, rfl⟩
                obtain ⟨c5, rfl⟩ : ∃ x : List Value, x = cr := ⟨_, rfl⟩
                obtain ⟨z5, hz5⟩ : ∃ z, z = ys4 ++ a.window.flatMap encEntry := ⟨_, rfl⟩
                rw [← hz5] at S5
                have HZ5 := Lib.hid hz5
                have B5 : Hid (z5.length ≤ 1000000) := Lib.hid (by rw [hz5, List.length_append]; have := BY4.out; have := B3.out; omega)
                clear hrow hkeep hput hsz hkg hz5 hrbb4 hrb4
                go_wp2
                go_end0
                exact ⟨v5, c5, rfl, by
                  have := S5.out.1
                  rw [HZ5.out, HYS4.out, HZ3.out, HYS2.out, HZ2.out, HZ1.out, HYS0.out] at this
                  have e1 : hs.flatMap encHV = encHolds a.holds := by rw [← S5.out.2.2.2.heq, encHolds, List.flatMap_map]; rfl
                  have e2 : hs.length = a.holds.length := by rw [← S5.out.2.2.2.heq, List.length_map]
                  rw [e1, e2] at this
                  simpa only [encLists, encLots, encEntries, List.append_assoc] using this, S5.out.2.2.1, S5.out.2.1⟩
              | succ g =>
                obtain ⟨x, hxk⟩ : ∃ x, a.window[k]? = some x := ⟨_, List.getElem?_eq_getElem (by omega)⟩
                have hk : (k : Int) < (a.window.length : Int) := by omega
                have AR := Lib.hid (T4.out.2.2.2.on hput)
                have PR := AR.out.win
                rw [HSV4.out] at PR
                have HT := Lib.hid (flat_take encEntry a.window k x hxk)
                have hst := flat_step encEntry a.window k x hxk
                have hll : a.window.length ≤ 1000000 := by have := flat_len encEntry encEntry_pos a.window; have := B3.out; omega
                have HST : Hid ((ys4 ++ (a.window.take k).flatMap encEntry).length + (encEntry x).length + 1000 ≤ 1000000) := Lib.hid (by
                  rw [List.length_append]; have := BY4.out; have := B3.out; omega)
                have HR := Lib.hid (And.intro hrow (And.intro hkeep hput))
                have HM := Lib.hid (List.mem_of_getElem? hxk)
                have hrbr := hrow.lt
                clear hrow hkeep hput hst
                rcases PR with ⟨he, _, _, hv0⟩ | ⟨b, off, cap, hv0, hc0, hb, hx⟩
                · simp at he; rw [he] at hxk; simp at hxk
                · simp only [List.length_map, Value.slice.injEq] at hv0 hc0
                  obtain ⟨hv1, _, hv2⟩ := hv0
                  subst hv1 hv2
                  have hrg : wr.rangeAt b (off + k * 14) (x.cells).toList := (hx k _ (by rw [List.getElem?_map, hxk]; rfl)).2
                  have HRG := Lib.hid hrg
                  clear hrg hx hxk
                  skip
                  go_upto_region 19 with (first
                    | (refine wpList_load_mid rfl 77 (.tmp 95) rfl b (off + k * 14) rfl (x.cells).toList _ HRG.out Tryd.underlying77 rfl (by kernel_rfl) ?_)
                    | (refine wpList_store_row rfl 77 (.tmp 7) (.tmp 96) rfl wr.heap.size (x.cells) rfl rfl 77 entryZ.cells (heap_alloc_new _ _) (by kernel_rfl) rfl (entry_one_cells _) ?_))
                  change Code.wp _ _ _ _ ((wr.alloc (.cells entryZ.cells 77)).setRow wr.heap.size (x.cells))
                  have hm := made_row wr (x.cells) entryZ.cells 77
                  generalize (wr.alloc (.cells entryZ.cells 77)).setRow wr.heap.size (x.cells) = W3 at *
                  have X3 : Hid (RW W3 rb vr (ys4 ++ (a.window.take k).flatMap encEntry) cr ∧ K59 cr cs ∧ Gr wb4 W3 rb vb4 vr ∧ W3.heap[wr.heap.size]? = some (.cells (x.cells) 77 (0, 0)) ∧ AccIn W3 rb vr a lv hv wv hs) := Lib.hid ⟨HR.out.1.below hm.1, HR.out.2.1, HR.out.2.2.trans (Gr.of_below hm.1), hm.2.1, AR.out.on (Gr.of_below hm.1)⟩
                  have hrb3 := X3.out.1.lt
                  generalize wr.heap.size = pb at *
                  clear hm HRG HR AR
                  go_upto_region 20 with (first
                    | (refine wpList_load_row rfl 77 (.tmp 7) rfl pb rfl 77 (x.cells) (0, 0) _ X3.out.2.2.2.1 Tryd.underlying77 (by kernel_rfl) (by kernel_rfl) ?_)
                    | (refine wpList_store_mid rfl 77 (.tmp 100) (.tmp 98) rfl rb 47 (x.cells) rfl rfl (X3.out.1.there 47 14 (by omega) (by omega)) (by kernel_rfl) (entry_one_cells _) ?_))
                  change Code.wp _ _ _ _ (W3.setCells rb 47 (x.cells).toList)
                  have hl3 := X3.out.1.len
                  have X4 : Hid (RW (W3.setCells rb 47 (x.cells).toList) rb vr (ys4 ++ (a.window.take k).flatMap encEntry) (wrC cr 47 (x.cells).toList) ∧ K59 (wrC cr 47 (x.cells).toList) cs ∧ Gr wb4 (W3.setCells rb 47 (x.cells).toList) rb vb4 vr ∧ (∀ (j : Nat) (u : Value), (x.cells).toList[j]? = some u → (wrC cr 47 (x.cells).toList)[47 - 2 + j]? = some u) ∧ AccIn (W3.setCells rb 47 (x.cells).toList) rb vr a lv hv wv hs) := Lib.hid
                    ⟨X3.out.1.set 47 _ (by omega) (by show 47 + 14 ≤ 81; omega), fun j hj => (wrC_out _ _ _ (by show 47 - 2 + 14 ≤ cr.length; omega) j (.inr (by show 47 - 2 + 14 ≤ j; omega))).trans (X3.out.2.1 j hj), X3.out.2.2.1.trans (Gr.of_setCells _ _), fun j u hj => by
                      rw [wrC_in _ _ _ (by show 47 - 2 + 14 ≤ cr.length; omega) j (List.getElem?_eq_some_iff.1 hj).1]; exact hj, X3.out.2.2.2.2.on (Gr.of_setCells _ _)⟩
                  generalize W3.setCells rb 47 (x.cells).toList = W4 at *
                  generalize wrC cr 47 (x.cells).toList = cr4 at *
                  clear X3 hl3
                  have hrb4 := X4.out.1.lt
                  go_wp2_with (go_at_call 30; refine (rw_entry rb vr _ cr4 x W4 X4.out.1 X4.out.2.2.2.1 (by have := HST.out; omega) (X4.out.2.2.2.2.short x HM.out)).mono ?_; rintro e w5 ⟨v5, cr5, rfl, hr5, hg5, hk5⟩; have X5 := Lib.hid (And.intro hr5 (And.intro hg5 hk5)); clear hr5 hg5 hk5)
                  go_roundg g
                  case measure => omega
                  case rel =>
                    refine ⟨k + 1, v5, cr5, by omega, by first | rfl | go_num, ?_, (fun j hj => (X5.out.2.2 j (by omega)).trans (X4.out.2.1 j hj)), X4.out.2.2.1.trans X5.out.2.1⟩
                    rw [HT.out, ← List.append_assoc]
                    exact X5.out.1
          | succ g =>
            obtain ⟨x, hxk⟩ : ∃ x, hs[k]? = some x := ⟨_, List.getElem?_eq_getElem (by omega)⟩
            have hk : (k : Int) < (hs.length : Int) := by omega
            have AR := Lib.hid (T2.out.2.2.2.on hput)
            have PR := AR.out.holds.1
            rw [HSV2.out] at PR
            have HT := Lib.hid (flat_take encHV hs k x hxk)
            have hst := flat_step encHV hs k x hxk
            have hll : hs.length ≤ 1000000 := by have := flat_len encHV encHV_pos hs; have := B2.out; omega
            have HST : Hid ((ys2 ++ (hs.take k).flatMap encHV).length + (encHV x).length + 1000 ≤ 1000000) := Lib.hid (by
              rw [List.length_append]; have := BY2.out; have := B2.out; omega)
            have HR := Lib.hid (And.intro hrow (And.intro hkeep hput))
            have HM := Lib.hid (List.mem_of_getElem? hxk)
            have hrbr := hrow.lt
            clear hrow hkeep hput hst
            rcases PR with ⟨he, _, _, hv0⟩ | ⟨b, off, cap, hv0, hc0, hb, hx⟩
            · simp at he; rw [he] at hxk; simp at hxk
            · simp only [List.length_map, Value.slice.injEq] at hv0 hc0
              obtain ⟨hv1, _, hv2⟩ := hv0
              subst hv1 hv2
              have hrg : wr.rangeAt b (off + k * 4) (x.1.cells x.2).toList := (hx k _ (by rw [List.getElem?_map, hxk]; rfl)).2
              have HRG := Lib.hid hrg
              clear hrg hx hxk
              have XS : Hid (∃ ha hc, x.2 = .slice ha x.1.parts.length hc) := Lib.hid (by obtain ⟨ha, hc, he⟩ := Items.len (AR.out.holds.2 x HM.out); exact ⟨ha, hc, by rw [he]; simp⟩)
              go_upto_region 12 with (first
                | (refine wpList_load_mid rfl 75 (.tmp 68) rfl b (off + k * 4) rfl (x.1.cells x.2).toList _ HRG.out Tryd.underlying75 rfl (by kernel_rfl) ?_)
                | (refine wpList_store_row rfl 75 (.tmp 5) (.tmp 69) rfl wr.heap.size (x.1.cells x.2) rfl rfl 75 (holdZ.cells (.slice none 0 0)) (heap_alloc_new _ _) (by kernel_rfl) rfl (by obtain ⟨ha, hc, he⟩ := XS.out; rw [he]; exact hold_one_cells _ _ _ _) ?_))
              change Code.wp _ _ _ _ ((wr.alloc (.cells (holdZ.cells (.slice none 0 0)) 75)).setRow wr.heap.size (x.1.cells x.2))
              have hm := made_row wr (x.1.cells x.2) (holdZ.cells (.slice none 0 0)) 75
              generalize (wr.alloc (.cells (holdZ.cells (.slice none 0 0)) 75)).setRow wr.heap.size (x.1.cells x.2) = W3 at *
              have X3 : Hid (RW W3 rb vr (ys2 ++ (hs.take k).flatMap encHV) cr ∧ K59 cr cs ∧ Gr wb2 W3 rb vb2 vr ∧ W3.heap[wr.heap.size]? = some (.cells (x.1.cells x.2) 75 (0, 0)) ∧ AccIn W3 rb vr a lv hv wv hs) := Lib.hid ⟨HR.out.1.below hm.1, HR.out.2.1, HR.out.2.2.trans (Gr.of_below hm.1), hm.2.1, AR.out.on (Gr.of_below hm.1)⟩
              have hrb3 := X3.out.1.lt
              generalize wr.heap.size = pb at *
              clear hm HRG HR AR
              go_upto_region 13 with (first
                | (refine wpList_load_row rfl 75 (.tmp 5) rfl pb rfl 75 (x.1.cells x.2) (0, 0) _ X3.out.2.2.2.1 Tryd.underlying75 (by kernel_rfl) (by kernel_rfl) ?_)
                | (refine wpList_store_mid rfl 75 (.tmp 73) (.tmp 71) rfl rb 43 (x.1.cells x.2) rfl rfl (X3.out.1.there 43 4 (by omega) (by omega)) (by kernel_rfl) (by obtain ⟨ha, hc, he⟩ := XS.out; rw [he]; exact hold_one_cells _ _ _ _) ?_))
              change Code.wp _ _ _ _ (W3.setCells rb 43 (x.1.cells x.2).toList)
              have hl3 := X3.out.1.len
              have X4 : Hid (RW (W3.setCells rb 43 (x.1.cells x.2).toList) rb vr (ys2 ++ (hs.take k).flatMap encHV) (wrC cr 43 (x.1.cells x.2).toList) ∧ K59 (wrC cr 43 (x.1.cells x.2).toList) cs ∧ Gr wb2 (W3.setCells rb 43 (x.1.cells x.2).toList) rb vb2 vr ∧ (∀ (j : Nat) (u : Value), (x.1.cells x.2).toList[j]? = some u → (wrC cr 43 (x.1.cells x.2).toList)[43 - 2 + j]? = some u) ∧ AccIn (W3.setCells rb 43 (x.1.cells x.2).toList) rb vr a lv hv wv hs) := Lib.hid
                ⟨X3.out.1.set 43 _ (by omega) (by show 43 + 4 ≤ 81; omega), fun j hj => (wrC_out _ _ _ (by show 43 - 2 + 4 ≤ cr.length; omega) j (.inr (by show 43 - 2 + 4 ≤ j; omega))).trans (X3.out.2.1 j hj), X3.out.2.2.1.trans (Gr.of_setCells _ _), fun j u hj => by
                  rw [wrC_in _ _ _ (by show 43 - 2 + 4 ≤ cr.length; omega) j (List.getElem?_eq_some_iff.1 hj).1]; exact hj, X3.out.2.2.2.2.on (Gr.of_setCells _ _)⟩
              generalize W3.setCells rb 43 (x.1.cells x.2).toList = W4 at *
              generalize wrC cr 43 (x.1.cells x.2).toList = cr4 at *
              clear X3 hl3
              have hrb4 := X4.out.1.lt
              go_wp2_with (go_at_call 30; go_must (refine (rw_hold rb vr _ cr4 x.1 x.2 W4 X4.out.1 X4.out.2.2.2.1 (by have := HST.out; have h16 := encHV_length x; omega) (X4.out.2.2.2.2.holds.2 x HM.out) (X4.out.2.2.2.2.ep x HM.out).1 (X4.out.2.2.2.2.ep x HM.out).2).mono ?_); rintro e w5 ⟨v5, rfl, hr5, hg5⟩; have X5 := Lib.hid (And.intro hr5 (And.intro hg5 trivial)); clear hr5 hg5)
              go_roundg g
              case measure => omega
              case rel =>
                refine ⟨k + 1, v5, cr4, by omega, by first | rfl | go_num, ?_, X4.out.2.1, X4.out.2.2.1.trans X5.out.2.1⟩
                rw [HT.out, ← List.append_assoc]
                exact X5.out.1
    | succ g =>
      obtain ⟨x, hxk⟩ : ∃ x, a.lots[k]? = some x := ⟨_, List.getElem?_eq_getElem (by omega)⟩
      have hk : (k : Int) < (a.lots.length : Int) := by omega
      have AR := Lib.hid (T0.out.2.2.2.on hput)
      have PR := AR.out.lots
      rw [HSV0.out] at PR
      have HT := Lib.hid (flat_take encLot a.lots k x hxk)
      have hst := flat_step encLot a.lots k x hxk
      have hll : a.lots.length ≤ 1000000 := by have := flat_len encLot encLot_pos a.lots; have := B0.out; omega
      have HST : Hid ((ys0 ++ (a.lots.take k).flatMap encLot).length + (encLot x).length + 1000 ≤ 1000000) := Lib.hid (by
        rw [List.length_append]; have := BY0.out; have := B0.out; omega)
      have HR := Lib.hid (And.intro hrow (And.intro hkeep hput))
      have HM := Lib.hid (List.mem_of_getElem? hxk)
      have hrbr := hrow.lt
      clear hrow hkeep hput hst
      rcases PR with ⟨he, _, _, hv0⟩ | ⟨b, off, cap, hv0, hc0, hb, hx⟩
      · simp at he; rw [he] at hxk; simp at hxk
      · simp only [List.length_map, Value.slice.injEq] at hv0 hc0
        obtain ⟨hv1, _, hv2⟩ := hv0
        subst hv1 hv2
        have hrg : wr.rangeAt b (off + k * 9) (x.cells).toList := (hx k _ (by rw [List.getElem?_map, hxk]; rfl)).2
        have HRG := Lib.hid hrg
        clear hrg hx hxk
        skip
        go_upto_region 4 with (first
          | (refine wpList_load_mid rfl 72 (.tmp 26) rfl b (off + k * 9) rfl (x.cells).toList _ HRG.out Tryd.underlying72 rfl (by kernel_rfl) ?_)
          | (refine wpList_store_row rfl 72 (.tmp 3) (.tmp 27) rfl wr.heap.size (x.cells) rfl rfl 72 lotZ.cells (heap_alloc_new _ _) (by kernel_rfl) rfl (lot_one_cells _) ?_))
        change Code.wp _ _ _ _ ((wr.alloc (.cells lotZ.cells 72)).setRow wr.heap.size (x.cells))
        have hm := made_row wr (x.cells) lotZ.cells 72
        generalize (wr.alloc (.cells lotZ.cells 72)).setRow wr.heap.size (x.cells) = W3 at *
        have X3 : Hid (RW W3 rb vr (ys0 ++ (a.lots.take k).flatMap encLot) cr ∧ K59 cr cs ∧ Gr wb0 W3 rb vb0 vr ∧ W3.heap[wr.heap.size]? = some (.cells (x.cells) 72 (0, 0)) ∧ AccIn W3 rb vr a lv hv wv hs) := Lib.hid ⟨HR.out.1.below hm.1, HR.out.2.1, HR.out.2.2.trans (Gr.of_below hm.1), hm.2.1, AR.out.on (Gr.of_below hm.1)⟩
        have hrb3 := X3.out.1.lt
        generalize wr.heap.size = pb at *
        clear hm HRG HR AR
        go_upto_region 5 with (first
          | (refine wpList_load_row rfl 72 (.tmp 3) rfl pb rfl 72 (x.cells) (0, 0) _ X3.out.2.2.2.1 Tryd.underlying72 (by kernel_rfl) (by kernel_rfl) ?_)
          | (refine wpList_store_mid rfl 72 (.tmp 31) (.tmp 29) rfl rb 34 (x.cells) rfl rfl (X3.out.1.there 34 9 (by omega) (by omega)) (by kernel_rfl) (lot_one_cells _) ?_))
        change Code.wp _ _ _ _ (W3.setCells rb 34 (x.cells).toList)
        have hl3 := X3.out.1.len
        have X4 : Hid (RW (W3.setCells rb 34 (x.cells).toList) rb vr (ys0 ++ (a.lots.take k).flatMap encLot) (wrC cr 34 (x.cells).toList) ∧ K59 (wrC cr 34 (x.cells).toList) cs ∧ Gr wb0 (W3.setCells rb 34 (x.cells).toList) rb vb0 vr ∧ (∀ (j : Nat) (u : Value), (x.cells).toList[j]? = some u → (wrC cr 34 (x.cells).toList)[34 - 2 + j]? = some u) ∧ AccIn (W3.setCells rb 34 (x.cells).toList) rb vr a lv hv wv hs) := Lib.hid
          ⟨X3.out.1.set 34 _ (by omega) (by show 34 + 9 ≤ 81; omega), fun j hj => (wrC_out _ _ _ (by show 34 - 2 + 9 ≤ cr.length; omega) j (.inr (by show 34 - 2 + 9 ≤ j; omega))).trans (X3.out.2.1 j hj), X3.out.2.2.1.trans (Gr.of_setCells _ _), fun j u hj => by
            rw [wrC_in _ _ _ (by show 34 - 2 + 9 ≤ cr.length; omega) j (List.getElem?_eq_some_iff.1 hj).1]; exact hj, X3.out.2.2.2.2.on (Gr.of_setCells _ _)⟩
        generalize W3.setCells rb 34 (x.cells).toList = W4 at *
        generalize wrC cr 34 (x.cells).toList = cr4 at *
        clear X3 hl3
        have hrb4 := X4.out.1.lt
        go_wp2_with (go_at_call 30; refine (rw_lot rb vr _ cr4 x W4 X4.out.1 X4.out.2.2.2.1 (by have := HST.out; omega)).mono ?_; rintro e w5 ⟨v5, rfl, hr5, hg5⟩; have X5 := Lib.hid (And.intro hr5 (And.intro hg5 trivial)); clear hr5 hg5)
        go_roundg g
        case measure => omega
        case rel =>
          refine ⟨k + 1, v5, cr4, by omega, by first | rfl | go_num, ?_, X4.out.2.1, X4.out.2.2.1.trans X5.out.2.1⟩
          rw [HT.out, ← List.append_assoc]
          exact X5.out.1
end Go.Proofs.YtehkgcmdndehaaaDoor

