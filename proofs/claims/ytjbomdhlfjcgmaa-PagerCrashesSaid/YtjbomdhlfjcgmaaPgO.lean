/-
  package pager: load, Open.
-/
import Derived.Test.YtjbomdhlfjcgmaaPgC
import Derived.Test.YtjbomdhlfjcgmaaOnceG
namespace Go.Proofs.Ytjbomdhlfjcgmaa
set_option linter.unusedSimpArgs false
set_option linter.unusedVariables false
open Go.RowKit

/-! Plain: what load reads. -/

def slotStep (acc : Nat × List UInt8) (b : List UInt8) : Nat × List UInt8 :=
  if b.take 8 = wordB ∧ acc.1 < slotSeq b then (slotSeq b, (b.drop 17).take (b.getD 16 0).toNat) else acc
def slotSt (D : DiskS) : Nat → Nat × List UInt8
  | 0 => (0, [])
  | i + 1 => slotStep (slotSt D i) (D.block i)
theorem slotSt_zero (D : DiskS) : slotSt D 0 = (0, []) := rfl
theorem slotSt_succ (D : DiskS) (i : Nat) : slotSt D (i + 1) = slotStep (slotSt D i) (D.block i) := rfl
theorem slotStep_new {acc : Nat × List UInt8} {b : List UInt8} {x : UInt8} (h1 : b.take 8 = wordB) (h2 : acc.1 < slotSeq b) (hx : b[16]? = some x) : slotStep acc b = (slotSeq b, (b.drop 17).take x.toNat) := by
  unfold slotStep
  rw [if_pos ⟨h1, h2⟩, List.getD_eq_getElem?_getD, hx]
  rfl
theorem slotStep_old {acc : Nat × List UInt8} {b : List UInt8} (h : ¬ (b.take 8 = wordB ∧ acc.1 < slotSeq b)) : slotStep acc b = acc := if_neg h
def bitOf (b : List UInt8) (m : Nat) : Bool := (b.getD (m / 8) 0).toNat / 2 ^ (m % 8) % 2 == 1
/-- What load takes for taken. -/
def loadTk (D : DiskS) (seq : Nat) (n : Nat) : Bool := decide (0 < seq) && decide (n < D.blocks) && bitOf (D.block (2 + seq % 2 * mapsN D.blocks + n / 4096)) (n % 4096)

theorem loadTk_lt {D : DiskS} {seq n : Nat} (h : loadTk D seq n = true) : n < D.blocks := by
  unfold loadTk at h
  simp only [Bool.and_eq_true, decide_eq_true_eq] at h
  exact h.1.2
theorem loadTk_zero (D : DiskS) (n : Nat) : loadTk D 0 n = false := by unfold loadTk; simp
theorem loadTk_out {D : DiskS} {seq n : Nat} (h : D.blocks ≤ n) : loadTk D seq n = false := by
  unfold loadTk
  have : ¬ n < D.blocks := by omega
  simp [this]
theorem loadTk_bit {D : DiskS} {seq i k : Nat} {x : UInt8} (h : 0 < seq) (hn : i * 4096 + k < D.blocks) (hk : k < 4096) (hx : (D.block (2 + seq % 2 * mapsN D.blocks + i))[k / 8]? = some x) : loadTk D seq (i * 4096 + k) = (x.toNat / 2 ^ (k % 8) % 2 == 1) := by
  unfold loadTk bitOf
  rw [show (i * 4096 + k) / 4096 = i by omega, show (i * 4096 + k) % 4096 = k by omega, List.getD_eq_getElem?_getD, hx]
  simp [h, hn]
/-- The first ones of them. -/
def tkTo (D : DiskS) (seq m n : Nat) : Bool := decide (n < m) && loadTk D seq n
theorem tkTo_zero (D : DiskS) (seq n : Nat) : tkTo D seq 0 n = false := by unfold tkTo; simp
theorem tkTo_all (D : DiskS) (seq : Nat) {m n : Nat} (h : n < m) : tkTo D seq m n = loadTk D seq n := by unfold tkTo; simp [h]
theorem tkTo_ne (D : DiskS) (seq : Nat) {m n : Nat} (h : n ≠ m) : tkTo D seq (m + 1) n = tkTo D seq m n := by
  unfold tkTo
  congr 1
  have : (n < m + 1) ↔ n < m := by omega
  simp [this]
theorem tkTo_same (D : DiskS) (seq m : Nat) : tkTo D seq m m = false := by unfold tkTo; simp
theorem tkTo_at (D : DiskS) (seq m : Nat) : tkTo D seq (m + 1) m = loadTk D seq m := tkTo_all D seq (by omega)
theorem tkTo_not (D : DiskS) (seq : Nat) {m : Nat} (h : loadTk D seq m = false) (n : Nat) : tkTo D seq (m + 1) n = tkTo D seq m n := by
  by_cases e : n = m
  · subst e; rw [tkTo_at, tkTo_same, h]
  · exact tkTo_ne D seq e
theorem cnt_tkTo (D : DiskS) (seq : Nat) {m : Nat} (h : loadTk D seq m = true) : cnt (tkTo D seq (m + 1)) D.blocks = cnt (tkTo D seq m) D.blocks + 1 := by
  rw [cnt_set (tkTo_same D seq m) ((tkTo_at D seq m).trans h) (fun n hn => tkTo_ne D seq hn), if_pos (loadTk_lt h)]

/-- A pager under way in load. -/
structure LdAt (w wr : World) (pb db : Nat) (seq : Nat) (v5 v6 : Value) (root : List UInt8) (many : Int) : Prop where
  c0 : wr.cell? ⟨pb, 0, none⟩ = some (.pointer (some ⟨db, 0, none⟩))
  c4 : wr.cell? ⟨pb, 4, none⟩ = some (.int .i64 seq)
  c5 : wr.cell? ⟨pb, 5, none⟩ = some v5
  c6 : wr.cell? ⟨pb, 6, none⟩ = some v6
  c7 : wr.cell? ⟨pb, 7, none⟩ = some (.int .i64 many)
  c11 : ∃ x, wr.cell? ⟨pb, 11, none⟩ = some (.int .i64 x)
  row : ∀ o, o ≠ 4 → o ≠ 5 → o ≠ 6 → o ≠ 7 → o ≠ 11 → wr.cell? ⟨pb, o, none⟩ = w.cell? ⟨pb, o, none⟩
  frz : ∀ o, wr.frozen? ⟨pb, o, none⟩ = false
  root : Reads wr v5 root
  root' : ∀ k, v5.ownBlock = some k → w.heap.size ≤ k
  keeps : Keeps (fun k => k = pb) w wr
theorem LdAt.lt {w wr : World} {pb db seq : Nat} {v5 v6 : Value} {root : List UInt8} {many : Int} (h : LdAt w wr pb db seq v5 v6 root many) (hp : pb < w.heap.size) : pb < wr.heap.size := Nat.lt_of_lt_of_le hp h.keeps.size
/-- Only new blocks, or the read counter. -/
theorem LdAt.tick {w wr w' : World} {pb db seq : Nat} {v5 v6 : Value} {root : List UInt8} {many : Int} (h : LdAt w wr pb db seq v5 v6 root many) (hp : pb < w.heap.size) (k : Ticks pb 11 wr w') : LdAt w w' pb db seq v5 v6 root many :=
  ⟨(k.row 0 (by omega)).trans h.c0, (k.row 4 (by omega)).trans h.c4, (k.row 5 (by omega)).trans h.c5, (k.row 6 (by omega)).trans h.c6, (k.row 7 (by omega)).trans h.c7, k.tick, fun o h1 h2 h3 h4 h5 => (k.row o h5).trans (h.row o h1 h2 h3 h4 h5), fun o => (k.frz o).trans (h.frz o),
    h.root.keeps k.keeps (fun j hj e => by have := h.root' j hj; omega), h.root', h.keeps.trans k.keeps⟩
theorem LdAt.below {w wr w' : World} {pb db seq : Nat} {v5 v6 : Value} {root : List UInt8} {many : Int} (h : LdAt w wr pb db seq v5 v6 root many) (hp : pb < w.heap.size) (k : Below wr.heap.size wr w') : LdAt w w' pb db seq v5 v6 root many := by
  have hb := k.block pb (h.lt hp)
  exact ⟨(World.cell?_of_block hb).trans h.c0, (World.cell?_of_block hb).trans h.c4, (World.cell?_of_block hb).trans h.c5, (World.cell?_of_block hb).trans h.c6, (World.cell?_of_block hb).trans h.c7, h.c11.imp fun _ e => (World.cell?_of_block hb).trans e, fun o h1 h2 h3 h4 h5 => (World.cell?_of_block hb).trans (h.row o h1 h2 h3 h4 h5),
    fun o => (World.frozen?_of_block hb).trans (h.frz o), h.root.below k, h.root', h.keeps.trans (Keeps.of_below k)⟩
theorem LdAt.drew {w wr : World} {pb db seq : Nat} {v5 v6 : Value} {root : List UInt8} {many : Int} (h : LdAt w wr pb db seq v5 v6 root many) : LdAt w wr.drew pb db seq v5 v6 root many :=
  ⟨h.c0, h.c4, h.c5, h.c6, h.c7, h.c11, h.row, h.frz, h.root.drew, h.root', h.keeps.drewN 1⟩
/-- A new slot is taken over. -/
theorem LdAt.slot {w wr : World} {pb db seq : Nat} {v5 v6 v : Value} {root zs : List UInt8} {many : Int} (h : LdAt w wr pb db seq v5 v6 root many) (hp : pb < w.heap.size) (s : Nat) (hr : Reads wr v zs) (hv : ∀ k, v.ownBlock = some k → w.heap.size ≤ k) :
    LdAt w ((wr.setCell ⟨pb, 4, none⟩ (.int .i64 s)).setCell ⟨pb, 5, none⟩ v) pb db s v v6 zs many := by
  have hk : Keeps (fun k => k = pb) wr ((wr.setCell ⟨pb, 4, none⟩ (.int .i64 s)).setCell ⟨pb, 5, none⟩ v) := ((Keeps.refl (fun k => k = pb) wr).setCell ⟨pb, 4, none⟩ (.int .i64 s) (fun _ => rfl)).setCell ⟨pb, 5, none⟩ v (fun _ => rfl)
  have hc : ∀ o, o ≠ 4 → o ≠ 5 → ((wr.setCell ⟨pb, 4, none⟩ (.int .i64 s)).setCell ⟨pb, 5, none⟩ v).cell? ⟨pb, o, none⟩ = wr.cell? ⟨pb, o, none⟩ := fun o h1 h2 => by
    rw [cell_set_ne (fun e => h2 (by cases e; rfl)), cell_set_ne (fun e => h1 (by cases e; rfl))]
  refine ⟨(hc 0 (by omega) (by omega)).trans h.c0, ?_, ?_, (hc 6 (by omega) (by omega)).trans h.c6, (hc 7 (by omega) (by omega)).trans h.c7, h.c11.imp fun _ e => (hc 11 (by omega) (by omega)).trans e, fun o h1 h2 h3 h4 h5 => (hc o h1 h2).trans (h.row o h1 h2 h3 h4 h5), fun o => ?_, ?_, hv, h.keeps.trans hk⟩
  · rw [cell_set_ne (fun e => by cases e)]
    exact cell_set_same h.c4
  · exact cell_set_same ((cell_set_ne (fun e => by cases e)).trans h.c5)
  · simp only [World.frozen?_setCell]
    exact h.frz o
  · exact hr.keeps hk (fun j hj e => by have := hv j hj; omega)

theorem LdAt.set6 {w wr : World} {pb db seq : Nat} {v5 v6 : Value} {root : List UInt8} {many : Int} (h : LdAt w wr pb db seq v5 v6 root many) (hp : pb < w.heap.size) (v : Value) : LdAt w (wr.setCell ⟨pb, 6, none⟩ v) pb db seq v5 v root many := by
  have hk : Keeps (fun k => k = pb) wr (wr.setCell ⟨pb, 6, none⟩ v) := (Keeps.refl (fun k => k = pb) wr).setCell ⟨pb, 6, none⟩ v (fun _ => rfl)
  have hc : ∀ o, o ≠ 6 → (wr.setCell ⟨pb, 6, none⟩ v).cell? ⟨pb, o, none⟩ = wr.cell? ⟨pb, o, none⟩ := fun o h1 => cell_set_ne (fun e => h1 (by cases e; rfl))
  exact ⟨(hc 0 (by omega)).trans h.c0, (hc 4 (by omega)).trans h.c4, (hc 5 (by omega)).trans h.c5, cell_set_same h.c6, (hc 7 (by omega)).trans h.c7, h.c11.imp fun _ e => (hc 11 (by omega)).trans e, fun o h1 h2 h3 h4 h5 => (hc o h3).trans (h.row o h1 h2 h3 h4 h5),
    fun o => by simp only [World.frozen?_setCell]; exact h.frz o, h.root.keeps hk (fun j hj e => by have := h.root' j hj; omega), h.root', h.keeps.trans hk⟩
theorem LdAt.set7 {w wr : World} {pb db seq : Nat} {v5 v6 : Value} {root : List UInt8} {many : Int} (h : LdAt w wr pb db seq v5 v6 root many) (hp : pb < w.heap.size) (m : Int) : LdAt w (wr.setCell ⟨pb, 7, none⟩ (.int .i64 m)) pb db seq v5 v6 root m := by
  have hk : Keeps (fun k => k = pb) wr (wr.setCell ⟨pb, 7, none⟩ (.int .i64 m)) := (Keeps.refl (fun k => k = pb) wr).setCell ⟨pb, 7, none⟩ (.int .i64 m) (fun _ => rfl)
  have hc : ∀ o, o ≠ 7 → (wr.setCell ⟨pb, 7, none⟩ (.int .i64 m)).cell? ⟨pb, o, none⟩ = wr.cell? ⟨pb, o, none⟩ := fun o h1 => cell_set_ne (fun e => h1 (by cases e; rfl))
  exact ⟨(hc 0 (by omega)).trans h.c0, (hc 4 (by omega)).trans h.c4, (hc 5 (by omega)).trans h.c5, (hc 6 (by omega)).trans h.c6, cell_set_same h.c7, h.c11.imp fun _ e => (hc 11 (by omega)).trans e, fun o h1 h2 h3 h4 h5 => (hc o h4).trans (h.row o h1 h2 h3 h4 h5),
    fun o => by simp only [World.frozen?_setCell]; exact h.frz o, h.root.keeps hk (fun j hj e => by have := h.root' j hj; omega), h.root', h.keeps.trans hk⟩
theorem LdAt.setB {w wr : World} {pb db seq : Nat} {v5 v6 : Value} {root : List UInt8} {many : Int} (h : LdAt w wr pb db seq v5 v6 root many) (hp : pb < w.heap.size) (g n : Nat) (v : Value) (hg : w.heap.size ≤ g) (h5 : v5.ownBlock ≠ some g) : LdAt w (wr.setCell ⟨g, n, none⟩ v) pb db seq v5 v6 root many := by
  have hb : (wr.setCell ⟨g, n, none⟩ v).heap[pb]? = wr.heap[pb]? := Below.heap_setCell _ _ _ _ (by show pb ≠ g; omega)
  exact ⟨(World.cell?_of_block hb).trans h.c0, (World.cell?_of_block hb).trans h.c4, (World.cell?_of_block hb).trans h.c5, (World.cell?_of_block hb).trans h.c6, (World.cell?_of_block hb).trans h.c7, h.c11.imp fun _ e => (World.cell?_of_block hb).trans e, fun o h1 h2 h3 h4 h5 => (World.cell?_of_block hb).trans (h.row o h1 h2 h3 h4 h5),
    fun o => (World.frozen?_of_block hb).trans (h.frz o), h.root.keeps ((Keeps.refl (fun k => k = g) wr).setCell ⟨g, n, none⟩ v (fun _ => rfl)) (fun j hj e => h5 (by rw [hj, e])), h.root', h.keeps.setCell ⟨g, n, none⟩ v (fun e => by exfalso; exact Nat.lt_irrefl _ (Nat.lt_of_lt_of_le e hg))⟩

/-- A block that load reads. -/
theorem ld_read {w wr : World} {pb db seq : Nat} {G : Nat → Prop} {D : DiskS} {v5 v6 : Value} {root : List UInt8} {many : Int} (hd : DkAt w db G D) (hal : D.dead = false) (hG : ¬ G pb) (hp : pb < w.heap.size) (h : LdAt w wr pb db seq v5 v6 root many) (n : Nat) (hn : n < D.blocks) :
    Calls Try.prog 38 #[.pointer (some ⟨pb, 0, none⟩), .int .i64 n] wr (BlkPost wr pb (D.block n)) := by
  obtain ⟨x, c11⟩ := h.c11
  refine (pg_read (F := fun k => k = pb) (hd.keeps h.keeps (fun k hk e => hG (by rw [← e]; exact hk))) (h.lt hp) hG h.c0 c11 (h.frz 11) n hn).mono ?_
  rintro e w' ⟨a, cc, he, hr, hnew, hT⟩
  simp only [hal, Bool.false_eq_true, if_false] at he hr hnew
  have hl := DiskS.block_length hd.wf n
  obtain ⟨b, off, rfl, h2, _⟩ := hr.sub (i := 0) (m := 0) rfl (by omega) (by omega)
  rw [hl] at he hr h2
  exact ⟨b, off, cc, he, h2, hr, hnew b (by rw [hl]; rfl), hT⟩

theorem Reads.cell16 {w : World} {b off n c i : Nat} {zs : List UInt8} {x : UInt8} (h : Reads w (.slice (some ⟨b, off, none⟩) n c) zs) (hx : zs[i]? = some x) : w.cell? ⟨b, off + i, none⟩ = some (.int .u8 x.toNat) := by
  rcases h with ⟨h1, _⟩ | ⟨b', off', cap, h1, _, _, h4⟩
  · cases h1
  · cases h1
    exact h4 i x hx

theorem bit_and (x : UInt8) (m : Nat) : (bits BinOp.and IntKind.u8 ((x.toNat : Int) / 2 ^ m) 1 == 1) = (x.toNat / 2 ^ m % 2 == 1) := by
  have hy : x.toNat / 2 ^ m < 256 := Nat.lt_of_le_of_lt (Nat.div_le_self _ _) x.toNat_lt
  have e : (x.toNat : Int) / 2 ^ m = ((x.toNat / 2 ^ m : Nat) : Int) := by rw [Int.natCast_ediv, Int.natCast_pow]; rfl
  rw [e]
  generalize x.toNat / 2 ^ m = y at *
  have : ∀ y : Fin 256, (bits BinOp.and IntKind.u8 ((y.1 : Nat) : Int) 1 == 1) = (y.1 % 2 == 1) := by decide +kernel
  exact this ⟨y, hy⟩

/-- A new free map. -/
theorem make_bools (w : World) (N : Nat) (hN : N ≤ 16384) : ∃ w', (Instr.makeSlice 75 (.int .i64 (N : Int)) (.int .i64 (N : Int))).run Try.prog w = .ok (.slice (some ⟨w.heap.size, 0, none⟩) N N) w' ∧
    OwnBools w' w.heap.size w.heap.size N N (fun _ => false) ∧ Below w.heap.size w w' := by
  obtain ⟨i0, hi, hz0, hz1, hz2⟩ := info_parts infoBool
  have h := run_make (P := Try.prog) w 75 4 i0 (.bool false) Try.underlying75 hi hz0 .i64 .i64 N N (by omega) (by omega) (by rw [hz2]; omega) (by omega)
  rw [hz1] at h
  refine ⟨_, h, ⟨Nat.le_refl _, by simp, Nat.le_refl _, fun i hi => ?_, fun i => World.frozen?_alloc_at _ _ _ _ rfl⟩, (Below.refl _ w).alloc (Nat.le_refl _) _⟩
  rw [World.cell?_alloc_at _ _ _ _ rfl]
  simp [madeCells, hi, Value.cells, Nat.mod_one]

theorem Reads.put {w : World} {v u : Value} {zs : List UInt8} {a : Addr} (h : Reads w v zs) (hv : v.ownBlock ≠ some a.block) : Reads (w.setCell a u) v zs :=
  h.keeps ((Keeps.refl (fun k => k = a.block) w).setCell a u (fun _ => rfl)) (fun j hj e => hv (by rw [hj, e]))

/-- What load leaves. -/
def LoadPost (w : World) (pb db : Nat) (D : DiskS) (e : Ending) (w' : World) : Prop :=
  e = .returned (.int .i64 0) ∧ ∃ v5 g gc base, LdAt w w' pb db (slotSt D 2).1 v5 (.slice (some ⟨g, 0, none⟩) D.blocks gc) (slotSt D 2).2 (cnt (loadTk D (slotSt D 2).1) D.blocks : Nat) ∧ OwnBools w' base g gc D.blocks (loadTk D (slotSt D 2).1) ∧ w.heap.size ≤ g ∧ v5.ownBlock ≠ some g

attribute [local irreducible] slotStep slotSt bitOf loadTk slotSeq DiskS.block
set_option maxHeartbeats 6400000 in
set_option maxRecDepth 100000 in
theorem pg_load {w : World} {pb db : Nat} {G : Nat → Prop} {D : DiskS} {many0 : Int} (hd : DkAt w db G D) (hal : D.dead = false) (hG : ¬ G pb) (hp : pb < w.heap.size) (hlo : 64 ≤ D.blocks) (h : LdAt w w pb db 0 (.slice none 0 0) (.slice none 0 0) [] 0)
    (hs : ∀ s, s < 2 → slotSeq (D.block s) < 9223372036854775808) : Calls Try.prog 32 #[.pointer (some ⟨pb, 0, none⟩)] w (LoadPost w pb db D) := by
  have HH := Lib.hid (And.intro hd (And.intro hal (And.intro hG (And.intro hp (And.intro hlo hs)))))
  have H0 := Lib.hid h
  clear hd hal hG hp hlo hs h
  go_enter Try.func32, Try.ntmps32
  go_wp2
  go_loopg [3, 4, 5, 6, 12] 2 (fun g s3 s4 s5 s6 s12 wr => ∃ (i : Nat) (v5 : Value), i + g = 2 ∧ s12 = .int .i64 i ∧ LdAt w wr pb db (slotSt D i).1 v5 (.slice none 0 0) (slotSt D i).2 0)
  case atStart =>
    refine ⟨0, .slice none 0 0, rfl, rfl, ?_⟩
    rw [slotSt_zero]
    exact H0.out
  case round =>
    obtain ⟨i, v5, hig, rfl, hat⟩ := hrel
    have HA := Lib.hid hat
    clear hat
    cases gk with
    | zero =>
      have hi : ¬ (i : Int) < 2 := by omega
      have hi2 : i = 2 := by omega
      subst hi2
      obtain ⟨sq, hsq⟩ : ∃ sq, sq = (slotSt D 2).1 := ⟨_, rfl⟩
      obtain ⟨rt, hrt⟩ : ∃ rt, rt = (slotSt D 2).2 := ⟨_, rfl⟩
      rw [← hsq, ← hrt] at HA
      have HSQ := Lib.hid (And.intro hsq hrt)
      clear hsq hrt
      obtain ⟨wA, rfl⟩ : ∃ x : World, x = wr := ⟨_, rfl⟩
      have hdA : Hid (DkAt wA db G D) := Lib.hid (HH.out.1.keeps HA.out.keeps (fun k hk e => HH.out.2.2.1 (by rw [← e]; exact hk)))
      obtain ⟨wm, hmk, hob, hbel⟩ := make_bools wA D.blocks HH.out.1.wf.hi
      have XM := Lib.hid (And.intro hob (And.intro (HA.out.below HH.out.2.2.2.1 hbel) (HA.out.lt HH.out.2.2.2.1)))
      have hdm : Hid (DkAt wm db G D) := Lib.hid (HH.out.1.keeps XM.out.2.1.keeps (fun k hk e => HH.out.2.2.1 (by rw [← e]; exact hk)))
      have k0 := HA.out.c0
      have k6 := XM.out.2.1.c6
      have z6 := XM.out.2.1.frz 6
      clear hob hbel hi
      go_upto_region 12 with (first | (go_at_call 29; go_must (refine (dk_blocks hdA.out).mono ?_; rintro e w' ⟨rfl, rfl⟩)))
      obtain ⟨w5, hw5⟩ : ∃ x : World, x = wm.setCell ⟨pb, 6, none⟩ (.slice (some ⟨wA.heap.size, 0, none⟩) D.blocks D.blocks) := ⟨_, rfl⟩
      have X5 : Hid (LdAt w w5 pb db sq v5 (.slice (some ⟨wA.heap.size, 0, none⟩) D.blocks D.blocks) rt 0 ∧ OwnBools w5 w.heap.size wA.heap.size D.blocks D.blocks (fun _ => false) ∧ v5.ownBlock ≠ some wA.heap.size ∧ wA.heap.size ≠ pb ∧ w.heap.size ≤ wA.heap.size) := by
        subst hw5
        refine Lib.hid ⟨XM.out.2.1.set6 HH.out.2.2.2.1 _, ?_, ?_, by have := XM.out.2.2; omega, HA.out.keeps.size⟩
        · have ho := XM.out.1.stay (w' := wm.setCell ⟨pb, 6, none⟩ (.slice (some ⟨wA.heap.size, 0, none⟩) D.blocks D.blocks)) (Below.heap_setCell _ _ _ _ (by have := XM.out.2.2; show wA.heap.size ≠ pb; omega)) (by simp [World.setCell])
          exact ⟨HA.out.keeps.size, ho.2⟩
        · intro e
          have := HA.out.root
          rcases this with ⟨rfl, _⟩ | ⟨b, o, c, rfl, _, hb, _⟩
          · cases e
          · have e' : b = wA.heap.size := by simpa [Value.ownBlock] using e
            omega
      have k50 := X5.out.1.c0
      clear k0 k6 z6 hmk
      have hd5 : Hid (DkAt w5 db G D) := Lib.hid (HH.out.1.keeps X5.out.1.keeps (fun k hk e => HH.out.2.2.1 (by rw [← e]; exact hk)))
      have HMN := Lib.hid (And.intro (maps_le HH.out.1.wf.hi) (show D.blocks ≤ mapsN D.blocks * 4096 by unfold mapsN; omega))
      rw [← hw5]
      clear hw5
      go_wp2_with (first | (go_at_call 44; go_must (refine (pg_maps hd5.out k50).mono ?_; rintro e w' ⟨rfl, rfl⟩)))
      clear k50
      go_loopg [7, 8, 9, 10, 11, 66] (mapsN D.blocks) (fun g s7 s8 s9 s10 s11 s66 wr => ∃ (i : Nat), i + g = mapsN D.blocks ∧ s66 = .int .i64 i ∧ LdAt w wr pb db sq v5 (.slice (some ⟨wA.heap.size, 0, none⟩) D.blocks D.blocks) rt ((cnt (tkTo D sq (i * 4096)) D.blocks : Nat) : Int) ∧ OwnBools wr w.heap.size wA.heap.size D.blocks D.blocks (tkTo D sq (i * 4096)))
      case atStart =>
        refine ⟨0, by omega, rfl, ?_, X5.out.2.1.congr (fun i _ => by rw [Nat.zero_mul, tkTo_zero])⟩
        rw [Nat.zero_mul, cnt_none _ (fun n _ => tkTo_zero D sq n)]
        exact X5.out.1
      case round =>
        obtain ⟨i, hig2, rfl, hat2, hob2⟩ := hrel
        have HB2 := Lib.hid (And.intro hat2 hob2)
        clear hat2 hob2
        obtain ⟨wB, rfl⟩ : ∃ x : World, x = wr := ⟨_, rfl⟩
        cases gk with
        | zero =>
          have hi : ¬ (i : Int) < ((mapsN D.blocks : Nat) : Int) := by omega
          have hi2 : i = mapsN D.blocks := by omega
          go_wp2
          go_ret
          refine ⟨rfl, v5, wA.heap.size, D.blocks, w.heap.size, ?_, ?_, X5.out.2.2.2.2, X5.out.2.2.1⟩
          · rw [← HSQ.out.1, ← HSQ.out.2]
            have := HB2.out.1
            rw [cnt_congr _ (fun n hn => tkTo_all D sq (by rw [hi2]; have := HMN.out.2; omega))] at this
            exact this
          · rw [← HSQ.out.1]
            exact HB2.out.2.congr (fun n hn => tkTo_all D sq (by rw [hi2]; have := HMN.out.2; omega))
        | succ gm =>
          have hi : (i : Int) < ((mapsN D.blocks : Nat) : Int) := by omega
          have him : (i : Int) ≤ 4 := by have := HMN.out.1; omega
          have hnb : 2 + sq % 2 * mapsN D.blocks + i < D.blocks := by
            have h2 := HH.out.2.2.2.2.1
            have h3 := HMN.out.1
            have h4 : sq % 2 * mapsN D.blocks ≤ 1 * mapsN D.blocks := Nat.mul_le_mul_right _ (by omega)
            omega
          have e1 : IntKind.i64.wrap (IntKind.i64.wrap (2 + IntKind.i64.wrap ((sq : Int).tmod 2 * ((mapsN D.blocks : Nat) : Int))) + (i : Int)) = ((2 + sq % 2 * mapsN D.blocks + i : Nat) : Int) := by
            have h3 := HMN.out.1
            have h4 : sq % 2 * mapsN D.blocks ≤ 1 * mapsN D.blocks := Nat.mul_le_mul_right _ (by omega)
            have hp : (sq : Int).tmod 2 * ((mapsN D.blocks : Nat) : Int) = ((sq % 2 * mapsN D.blocks : Nat) : Int) := by rw [Int.tmod_eq_emod_of_nonneg (by omega), Int.natCast_mul, Int.natCast_emod]; rfl
            rw [hp]
            generalize sq % 2 * mapsN D.blocks = q at *
            rw [IntWalk.i64_in (q : Int) (by omega), IntWalk.i64_in (2 + (q : Int)) (by omega), IntWalk.i64_in (2 + (q : Int) + (i : Int)) (by omega)]
            omega
          have HE1 := Lib.hid (And.intro e1 hnb)
          have hdB : Hid (DkAt wB db G D) := Lib.hid (HH.out.1.keeps HB2.out.1.keeps (fun k hk e => HH.out.2.2.1 (by rw [← e]; exact hk)))
          have k0 := HB2.out.1.c0
          have k4 := HB2.out.1.c4
          clear e1 hnb
          go_upto_region 15 with (fail)
          go_region_law ((first
                | (go_simp; go_at_call 44; go_must (refine (pg_maps hdB.out.drew (by exact k0)).mono ?_; rintro e w' ⟨rfl, rfl⟩))
                | (go_simp; go_at_call 38; go_must (have hr := ld_read HH.out.1 HH.out.2.1 HH.out.2.2.1 HH.out.2.2.2.1 HB2.out.1.drew (2 + sq % 2 * mapsN D.blocks + i) HE1.out.2; rw [HE1.out.1]; refine hr.mono ?_; rintro e w1 ⟨b, off, c1, rfl, hc1, hr, hnew, hT⟩; have X1 := Lib.hid (And.intro hr (And.intro hnew (And.intro (HB2.out.1.drew.tick HH.out.2.2.2.1 hT) hT))); clear hr hnew hT))))
          all_goals
            clear k0 k4
            have hbl := DiskS.block_length HH.out.1.wf (2 + sq % 2 * mapsN D.blocks + i)
            obtain ⟨zs, hzs⟩ : ∃ zs, zs = D.block (2 + sq % 2 * mapsN D.blocks + i) := ⟨_, rfl⟩
            rw [← hzs] at X1 hbl
            have HZ := Lib.hid (And.intro hzs hbl)
            clear hzs hbl
            have X1' : Hid (LdAt w w1 pb db sq v5 (.slice (some ⟨wA.heap.size, 0, none⟩) D.blocks D.blocks) rt ((cnt (tkTo D sq (i * 4096)) D.blocks : Nat) : Int) ∧ OwnBools w1 w.heap.size wA.heap.size D.blocks D.blocks (tkTo D sq (i * 4096)) ∧ Reads w1 (.slice (some ⟨b, off, none⟩) 512 c1) zs ∧ b ≠ pb ∧ b ≠ wA.heap.size) := by
              have hlt := HB2.out.2.2.1
              have hw := HB2.out.1.keeps.size
              have hb : wB.heap.size ≤ b := X1.out.2.1
              have hpp := HH.out.2.2.2.1
              refine Lib.hid ⟨X1.out.2.2.1, HB2.out.2.stay (X1.out.2.2.2.keeps.block wA.heap.size hlt X5.out.2.2.2.1) X1.out.2.2.2.keeps.size, X1.out.1, by omega, by omega⟩
            clear X1
            go_wp2
            go_loopg [10, 11, 88] 4096 (fun g s10 s11 s88 wr => ∃ (k : Nat), k + g = 4096 ∧ s88 = .int .i64 k ∧ LdAt w wr pb db sq v5 (.slice (some ⟨wA.heap.size, 0, none⟩) D.blocks D.blocks) rt ((cnt (tkTo D sq (i * 4096 + k)) D.blocks : Nat) : Int) ∧ OwnBools wr w.heap.size wA.heap.size D.blocks D.blocks (tkTo D sq (i * 4096 + k)) ∧ Reads wr (.slice (some ⟨b, off, none⟩) 512 c1) zs)
            case atStart => exact ⟨0, rfl, rfl, X1'.out.1, X1'.out.2.1, X1'.out.2.2.1⟩
            case round =>
              obtain ⟨k, hkg, rfl, hat3, hob3, hrd3⟩ := hrel
              have HB3 := Lib.hid (And.intro hat3 (And.intro hob3 hrd3))
              clear hat3 hob3 hrd3
              cases gk with
              | zero =>
                have hk : ¬ (k : Int) < 4096 := by omega
                have hk2 : k = 4096 := by omega
                subst hk2
                go_wp2
                go_roundg gm
                case measure => omega
                case rel =>
                  have e : (i + 1) * 4096 = i * 4096 + 4096 := by omega
                  refine ⟨i + 1, by omega, by simp, ?_, ?_⟩
                  · rw [e]; exact HB3.out.1
                  · rw [e]; exact HB3.out.2.1
              | succ gn =>
                have hk : (k : Int) < 4096 := by omega
                have hk2 : k < 4096 := by omega
                have hk0 : (0 : Int) ≤ (k : Int) := by omega
                have c4 := HB3.out.1.c4
                have c6 := HB3.out.1.c6
                have c7 := HB3.out.1.c7
                have HK := Lib.hid hk2
                have HKG := Lib.hid hkg
                clear hk2 hkg
                rcases Nat.eq_zero_or_pos sq with h0 | h0
                · have hq : ¬ (0 : Int) < (sq : Int) := by omega
                  have HT : Hid (loadTk D sq (i * 4096 + k) = false) := Lib.hid (by rw [h0]; exact loadTk_zero D _)
                  clear h0
                  go_wp2
                  go_roundg gn
                  case measure => omega
                  case rel =>
                    refine ⟨k + 1, by have := HKG.out; omega, by simp, ?_, HB3.out.2.1.congr (fun n _ => by rw [← Nat.add_assoc]; exact (tkTo_not D sq HT.out n).symm), HB3.out.2.2⟩
                    rw [← Nat.add_assoc, cnt_congr _ (fun n _ => tkTo_not D sq HT.out n)]
                    exact HB3.out.1
                · have hq : (0 : Int) < (sq : Int) := by omega
                  by_cases hn : i * 4096 + k < D.blocks
                  · have hn' : (i : Int) * 4096 + (k : Int) < (D.blocks : Int) := by omega
                    have h8 : k / 8 < zs.length := by rw [HZ.out.2]; have := HK.out; omega
                    obtain ⟨x, hx⟩ : ∃ x, zs[k / 8]? = some x := ⟨_, List.getElem?_eq_getElem h8⟩
                    have c8 := Reads.cell16 HB3.out.2.2 hx
                    have HT := Lib.hid (loadTk_bit h0 hn HK.out (by rw [← HZ.out.1]; exact hx))
                    have HN := Lib.hid hn
                    have hk8 : k % 8 < 8 := Nat.mod_lt _ (by omega)
                    have c9 : wr.cell? ⟨wA.heap.size, i * 4096 + k, none⟩ = some (.bool (tkTo D sq (i * 4096 + k) (i * 4096 + k))) := HB3.out.2.1.2.2.2.1 _ hn
                    have z9 := HB3.out.2.1.2.2.2.2 (i * 4096 + k)
                    have z7 := HB3.out.1.frz 7
                    have hcm : (cnt (tkTo D sq (i * 4096 + k)) D.blocks : Int) ≤ 16384 := by have := cnt_le (tkTo D sq (i * 4096 + k)) D.blocks; have := HH.out.1.wf.hi; omega
                    have hne : wA.heap.size ≠ pb := X5.out.2.2.2.1
                    clear h0 hn hx h8
                    go_upto_region 22 with (fail)
                    go_upto_region 23 with (fail)
                    · have hbit : (bits BinOp.and IntKind.u8 ((x.toNat : Int) / 2 ^ (k % 8)) 1 == 1) = true := by assumption
                      rw [bit_and] at hbit
                      have HT2 : Hid (loadTk D sq (i * 4096 + k) = true) := Lib.hid (HT.out.trans hbit)
                      clear hbit
                      go_wp2
                      go_roundg gn
                      case measure => omega
                      case rel =>
                        refine ⟨k + 1, by have := HKG.out; omega, by simp, ?_, ?_, ?_⟩
                        · rw [← Nat.add_assoc, cnt_tkTo D sq HT2.out, Int.natCast_add]
                          exact (HB3.out.1.setB HH.out.2.2.2.1 wA.heap.size _ _ X5.out.2.2.2.2 X5.out.2.2.1).set7 HH.out.2.2.2.1 _
                        · rw [← Nat.add_assoc]
                          exact ((HB3.out.2.1.set (i * 4096 + k) HN.out true).congr (fun n _ => by
                            by_cases e : n = i * 4096 + k
                            · rw [if_pos e, e, tkTo_at, HT2.out]
                            · rw [if_neg e, tkTo_ne D sq e])).stay (Below.heap_setCell _ _ _ _ hne) (by simp [World.setCell])
                        · exact (HB3.out.2.2.put (by have := X1'.out.2.2.2.2; intro e; cases e; exact this rfl)).put (by have := X1'.out.2.2.2.1; intro e; cases e; exact this rfl)
                    · have hbit : (bits BinOp.and IntKind.u8 ((x.toNat : Int) / 2 ^ (k % 8)) 1 == 1) = false := by assumption
                      rw [bit_and] at hbit
                      have HT2 : Hid (loadTk D sq (i * 4096 + k) = false) := Lib.hid (HT.out.trans hbit)
                      clear hbit
                      go_roundg gn
                      case measure => omega
                      case rel =>
                        refine ⟨k + 1, by have := HKG.out; omega, by simp, ?_, HB3.out.2.1.congr (fun n _ => by rw [← Nat.add_assoc]; exact (tkTo_not D sq HT2.out n).symm), HB3.out.2.2⟩
                        rw [← Nat.add_assoc, cnt_congr _ (fun n _ => tkTo_not D sq HT2.out n)]
                        exact HB3.out.1
                  · have hn' : ¬ (i : Int) * 4096 + (k : Int) < (D.blocks : Int) := by omega
                    have HT : Hid (loadTk D sq (i * 4096 + k) = false) := Lib.hid (loadTk_out (by omega))
                    clear h0 hn
                    go_wp2
                    go_roundg gn
                    case measure => omega
                    case rel =>
                      refine ⟨k + 1, by have := HKG.out; omega, by simp, ?_, HB3.out.2.1.congr (fun n _ => by rw [← Nat.add_assoc]; exact (tkTo_not D sq HT.out n).symm), HB3.out.2.2⟩
                      rw [← Nat.add_assoc, cnt_congr _ (fun n _ => tkTo_not D sq HT.out n)]
                      exact HB3.out.1
    | succ g =>
      have hi : (i : Int) < 2 := by omega
      have hi2 : i < 2 := by omega
      have HB := Lib.hid (And.intro hi2 (show i < D.blocks by have := HH.out.2.2.2.2.1; omega))
      clear hi2
      go_upto_region 8 with (first
        | (go_at_call 38; go_must (refine (ld_read HH.out.1 HH.out.2.1 HH.out.2.2.1 HH.out.2.2.2.1 HA.out i HB.out.2).mono ?_; rintro e w1 ⟨b, off, c1, rfl, hc1, hr, hnew, hT⟩); have X1 := Lib.hid (And.intro hr (And.intro hnew (HA.out.tick HH.out.2.2.2.1 hT))); clear hr hnew hT)
        | (go_at_call 39; go_must (refine (pg_get _ (((D.block i).drop 8).take 8) w1 (X1.out.1.mid (i := 8) (m := 8) (DiskS.block_length HH.out.1.wf i).symm (by omega) (by omega)) (by rw [List.length_take]; omega) (by have := HH.out.2.2.2.2.2 i HB.out.1; unfold slotSeq at this; exact this)).mono ?_; rintro e w' ⟨rfl, rfl⟩)))
      have hcv : (convert 22 9 (.slice (some ⟨b, off, none⟩) 8 c1)).run Try.prog w1 = .ok (.string (strB ((D.block i).take 8))) w1 := run_string_of 22 9 5 Try.underlying22 Try.underlying5 Try.underlying9 (X1.out.1.front (DiskS.block_length HH.out.1.wf i).symm (by omega))
      have h4 := X1.out.2.2.c4
      go_upto_region 9 with (first | (rw [hcv]; exact ⟨_, rfl, rfl⟩) | exact X1.out.2.2.c4)
      rotate_left 0
      · have h16 : 16 < (D.block i).length := by rw [DiskS.block_length HH.out.1.wf]; omega
        obtain ⟨x, hx⟩ : ∃ x, (D.block i)[16]? = some x := ⟨_, List.getElem?_eq_getElem h16⟩
        have hc16 := Reads.cell16 X1.out.1 hx
        have hxl := x.toNat_lt
        have hlen : (((D.block i).drop 17).take x.toNat).length = x.toNat := by rw [List.length_take, List.length_drop, DiskS.block_length HH.out.1.wf]; omega
        have hsub := X1.out.1.mid (i := 17) (m := x.toNat) (DiskS.block_length HH.out.1.wf i).symm (by omega) (by omega)
        have h5 := X1.out.2.2.c5
        rename_i hq1 hq2
        have hw8 : (D.block i).take 8 = wordB := by rw [Lib.toList_data, strB_toList] at hq1; exact hq1
        have HE := Lib.hid (slotStep_new (acc := slotSt D i) hw8 (by unfold slotSeq; exact hq2) hx)
        clear hw8
        go_wp2_with (go_at_call 34; go_must (refine (clone_bytes _ _ _ hsub (by unfold Fits; omega)).mono ?_; rintro e w2 ⟨v', rfl, hrv, hob, hbel⟩; obtain ⟨av, nv, cv, rfl⟩ : ∃ a n c, v' = .slice a n c := (by rcases hrv with ⟨rfl, _⟩ | ⟨b', o', c', rfl, _⟩ <;> exact ⟨_, _, _, rfl⟩)); have X2 := Lib.hid (And.intro hrv (And.intro hob (X1.out.2.2.below HH.out.2.2.2.1 hbel))); clear hrv hob hbel; have k4 := X2.out.2.2.c4; have k5 := X2.out.2.2.c5; have z4 := X2.out.2.2.frz 4; have z5 := X2.out.2.2.frz 5)
        go_roundg g
        case measure => omega
        case rel =>
          refine ⟨i + 1, .slice av nv cv, by omega, by simp, ?_⟩
          rw [slotSt_succ, HE.out]; unfold slotSeq
          exact X2.out.2.2.slot HH.out.2.2.2.1 _ X2.out.1 (fun k hk => Nat.le_trans X1.out.2.2.keeps.size (X2.out.2.1 k hk))
      · rename_i hq1 hq2
        go_roundg g
        case measure => omega
        case rel =>
          refine ⟨i + 1, v5, by omega, by simp, ?_⟩
          rw [slotSt_succ, slotStep_old (fun e => hq2 (by have := e.2; unfold slotSeq at this; exact this))]
          exact X1.out.2.2
      · rename_i hq1
        go_roundg g
        case measure => omega
        case rel =>
          refine ⟨i + 1, v5, by omega, by simp, ?_⟩
          rw [slotSt_succ, slotStep_old (fun e => hq1 (by rw [Lib.toList_data, strB_toList]; exact e.1))]
          exact X1.out.2.2
end Go.Proofs.Ytjbomdhlfjcgmaa
