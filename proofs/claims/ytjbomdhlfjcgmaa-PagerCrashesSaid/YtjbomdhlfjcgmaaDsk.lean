/-
  package disk, walked.
-/
import Derived.Test.YtjbomdhlfjcgmaaBMap
import Derived.Laws.MakeOwn
import Derived.Tactics
import Derived.Tactics2
import Derived.Laws.Pointers
import Derived.Laws.LoneSync
import Derived.BigQuiet
import Derived.Deep.QuietTactic
import Derived.Deep.RegionLaw
import Derived.RegionTactic
namespace Go.Proofs.Ytjbomdhlfjcgmaa
set_option linter.unusedSimpArgs false
set_option linter.unusedVariables false
open Go.RowKit

/-- The disk at block db lies in the blocks of F. -/
structure DkAt (w : World) (db : Nat) (F : Nat → Prop) (D : DiskS) : Prop where
  wf : DiskWf D
  c0 : w.cell? ⟨db, 0, none⟩ = some (.int .i64 D.blocks)
  c2 : w.cell? ⟨db, 2, none⟩ = some (.int .i64 (wrap64 D.writes))
  c3 : w.cell? ⟨db, 3, none⟩ = some (.int .i64 D.left)
  c4 : w.cell? ⟨db, 4, none⟩ = some (.bool D.dead)
  by' : ∃ mb, w.cell? ⟨db, 1, none⟩ = some (.map (some mb)) ∧ F mb ∧ mb ≠ db ∧ BMap w (fun k => F k ∧ k ≠ db ∧ k ≠ mb) mb D.put D.blocks
  frz : ∀ o, w.frozen? ⟨db, o, none⟩ = false
  own : F db
  lim : ∀ k, F k → k < w.heap.size

theorem DkAt.lt {w : World} {db : Nat} {F : Nat → Prop} {D : DiskS} (h : DkAt w db F D) : db < w.heap.size := h.lim db h.own
theorem DkAt.stay {w w' : World} {db : Nat} {F : Nat → Prop} {D : DiskS} (h : DkAt w db F D) (hF : ∀ k, k < w.heap.size → F k → w'.heap[k]? = w.heap[k]?) (hs : w.heap.size ≤ w'.heap.size) : DkAt w' db F D := by
  have hdb := hF db h.lt h.own
  obtain ⟨mb, h1, h2, h3, hm⟩ := h.by'
  exact ⟨h.wf, (World.cell?_of_block hdb).trans h.c0, (World.cell?_of_block hdb).trans h.c2, (World.cell?_of_block hdb).trans h.c3, (World.cell?_of_block hdb).trans h.c4,
    ⟨mb, (World.cell?_of_block hdb).trans h1, h2, h3, hm.stay (hF mb hm.blt h2) (fun k hk hf => hF k hk hf.1) hs⟩, fun o => (World.frozen?_of_block hdb).trans (h.frz o), h.own, fun k hk => Nat.lt_of_lt_of_le (h.lim k hk) hs⟩
theorem DkAt.keeps {w w' : World} {db : Nat} {F G : Nat → Prop} {D : DiskS} (h : DkAt w db F D) (k : Keeps G w w') (hd : ∀ k, F k → ¬ G k) : DkAt w' db F D := h.stay (fun j hj hf => k.block j hj (hd j hf)) k.size
theorem DkAt.below {w w' : World} {db : Nat} {F : Nat → Prop} {D : DiskS} (h : DkAt w db F D) (k : Below w.heap.size w w') : DkAt w' db F D := h.stay (fun j hj _ => k.block j hj) k.size
theorem DkAt.drew {w : World} {db : Nat} {F : Nat → Prop} {D : DiskS} (h : DkAt w db F D) : DkAt w.drew db F D := h.stay (fun _ _ _ => rfl) (Nat.le_refl _)

theorem DkAt.drewN {w : World} {db : Nat} {F : Nat → Prop} {D : DiskS} (h : DkAt w db F D) (n : Nat) : DkAt (w.drewN n) db F D := h.stay (fun _ _ _ => rfl) (Nat.le_refl _)
/-- Numbers of the disk turned. -/
theorem DkAt.set {w w' : World} {db : Nat} {F : Nat → Prop} {D D' : DiskS} (h : DkAt w db F D) (hp : D'.put = D.put) (hb : D'.blocks = D.blocks) (wf : DiskWf D') (hk : ∀ k, k ≠ db → w'.heap[k]? = w.heap[k]?) (hs : w'.heap.size = w.heap.size)
    (c0 : w'.cell? ⟨db, 0, none⟩ = w.cell? ⟨db, 0, none⟩) (c1 : w'.cell? ⟨db, 1, none⟩ = w.cell? ⟨db, 1, none⟩) (c2 : w'.cell? ⟨db, 2, none⟩ = some (.int .i64 (wrap64 D'.writes)))
    (c3 : w'.cell? ⟨db, 3, none⟩ = some (.int .i64 D'.left)) (c4 : w'.cell? ⟨db, 4, none⟩ = some (.bool D'.dead)) (hf : ∀ o, w'.frozen? ⟨db, o, none⟩ = false) : DkAt w' db F D' := by
  obtain ⟨mb, h1, h2, h3, hm⟩ := h.by'
  refine ⟨wf, by rw [c0, hb]; exact h.c0, c2, c3, c4, ⟨mb, c1.trans h1, h2, h3, ?_⟩, hf, h.own, fun k hk => by rw [hs]; exact h.lim k hk⟩
  rw [hp, hb]
  exact hm.stay (hk mb h3) (fun k _ hf => hk k hf.2.1) (Nat.le_of_eq hs.symm)

/-- Bytes of its own are answered, an error beside. -/
def RdPost (w : World) (zs : List UInt8) (er : Int) (e : Ending) (w' : World) : Prop :=
  ∃ (a : Option Addr) (c : Nat), e = .returned (.tuple #[.slice a zs.length c, .int .i64 er]) ∧ Reads w' (.slice a zs.length c) zs ∧ (∀ k, (Value.slice a zs.length c).ownBlock = some k → w.heap.size ≤ k) ∧ Below w.heap.size w w'

theorem dk_blocks {w : World} {db : Nat} {F : Nat → Prop} {D : DiskS} (h : DkAt w db F D) : Calls Try.prog 29 #[.pointer (some ⟨db, 0, none⟩)] w fun e w' => e = .returned (.int .i64 D.blocks) ∧ w = w' := by
  have c0 := h.c0
  go_enter Try.func29, Try.ntmps29
  go_wp2
  go_ret
  exact ⟨rfl, rfl⟩
theorem dk_dead {w : World} {db : Nat} {F : Nat → Prop} {D : DiskS} (h : DkAt w db F D) : Calls Try.prog 22 #[.pointer (some ⟨db, 0, none⟩)] w fun e w' => e = .returned (.bool D.dead) ∧ w = w' := by
  have c4 := h.c4
  go_enter Try.func22, Try.ntmps22
  go_wp2
  go_ret
  exact ⟨rfl, rfl⟩
theorem at_load {w : World} {b o : Nat} {x : Int} (h : w.cell? ⟨b, o, none⟩ = some (.int .i64 x)) : Calls Try.prog 41 #[.pointer (some ⟨b, o, none⟩)] w fun e w' => e = .returned (.int .i64 x) ∧ w = w' := by
  have hl := run_call_load (P := Try.prog) Try.func50 (by kernel_rfl) (by kernel_rfl) (by kernel_rfl) .i64 (by kernel_rfl) h
  go_enter Try.func41, Try.ntmps41
  go_wp2
  go_ret
  exact ⟨rfl, rfl⟩
theorem at_add {w : World} {b o : Nat} {x : Int} (h : w.cell? ⟨b, o, none⟩ = some (.int .i64 x)) (hz : w.frozen? ⟨b, o, none⟩ = false) :
    Calls Try.prog 40 #[.pointer (some ⟨b, o, none⟩), .int .i64 1] w fun e w' => e = .returned (.int .i64 (wrap64 (x + 1))) ∧ w' = w.setCell ⟨b, o, none⟩ (.int .i64 (wrap64 (x + 1))) := by
  have hl := run_call_add (P := Try.prog) Try.func49 (by kernel_rfl) (by kernel_rfl) (by kernel_rfl) .i64 (by kernel_rfl) (y := 1) (s := wrap64 (x + 1)) h hz (by simp [go_sem]; exact IntWalk.i64_left _)
  go_enter Try.func40, Try.ntmps40
  go_wp2
  go_ret
  exact ⟨rfl, rfl⟩
theorem dk_writes {w : World} {db : Nat} {F : Nat → Prop} {D : DiskS} (h : DkAt w db F D) : Calls Try.prog 27 #[.pointer (some ⟨db, 0, none⟩)] w fun e w' => e = .returned (.int .i64 (wrap64 D.writes)) ∧ w = w' := by
  have c2 := h.c2
  go_enter Try.func27, Try.ntmps27
  go_wp2_with (go_at_call 41; refine (at_load c2).mono ?_; rintro e w' ⟨rfl, rfl⟩)
  go_ret
  exact ⟨rfl, rfl⟩

theorem BMap.raw {w : World} {F : Nat → Prop} {mb N : Nat} {g : Nat → Option (List UInt8)} (h : BMap w F mb g N) (x : Int) (hw : (Lit.int .i64 x).wf = true) {t k e : TypeId} (hk : Try.prog.underlying k = some (.int .i64)) (ht : Try.prog.underlying t = some (.map k e)) (hz : (zeroValue e).run Try.prog w = .ok (.slice none 0 0) w) :
    ((0 ≤ x → g x.toNat = none) ∧ (Instr.lookup t (.map (some mb)) (.int .i64 x) true).run Try.prog w = .ok (.tuple #[.slice none 0 0, .bool false]) w) ∨
    ∃ (a : Option Addr) (c : Nat) (zs : List UInt8), 0 ≤ x ∧ g x.toNat = some zs ∧ Reads w (.slice a zs.length c) zs ∧ (∀ k, (Value.slice a zs.length c).ownBlock = some k → F k) ∧
      (Instr.lookup t (.map (some mb)) (.int .i64 x) true).run Try.prog w = .ok (.tuple #[.slice a zs.length c, .bool true]) w := by
  obtain ⟨f, hm, h1⟩ := h.at'
  have hr := hm.look hk ht hz x hw true
  rcases h1 x with ⟨e1, e2⟩ | ⟨a, c, zs, e1, e2, e3, e4, e5⟩
  · rw [e1] at hr; exact .inl ⟨e2, hr⟩
  · rw [e1] at hr; exact .inr ⟨a, c, zs, e2, e3, e4, e5, hr⟩
theorem zeroBytes (w : World) : (zeroValue 22).run Try.prog w = .ok (.slice none 0 0) w := by kernel_rfl

theorem wf_small (n : Nat) (h : n < 1000000000000) : (Lit.int .i64 (n : Int)).wf = true := WalkArith.wf_i64 (by omega)

set_option maxRecDepth 100000 in
theorem dk_read {w : World} {db : Nat} {F : Nat → Prop} {D : DiskS} (h : DkAt w db F D) (hd : D.dead = false) (n : Nat) (hn : n < D.blocks) :
    Calls Try.prog 48 #[.pointer (some ⟨db, 0, none⟩), .int .i64 n] w (RdPost w (D.block n) 0) := by
  obtain ⟨i0, hi, hz0, hz1, hz2⟩ := info_parts infoU8
  obtain ⟨mb, c1, _, _, hm⟩ := h.by'
  have c0 := h.c0
  have c4 := h.c4
  rw [hd] at c4
  have hb := h.wf.hi
  have hn0 : (0 : Int) ≤ (n : Int) := by omega
  have hn1 : (n : Int) < (D.blocks : Int) := by omega
  rcases hm.raw n (wf_small n (by omega)) (k := 3) (t := 57) Try.underlying3 Try.underlying57 (zeroBytes w) with ⟨hg, hrun⟩ | ⟨a, c, zs, h0, hg, hr, ho, hrun⟩
  · have hg' : D.block n = zerosB 512 := by unfold DiskS.block; rw [show D.put n = none by simpa using hg]; rfl
    rw [hg']
    have HB := Lib.hid hb
    clear hg hg' hm h hb hd
    go_enter Try.func48, Try.ntmps48
    go_wp2_with (at_make; refine wpList_make_full _ rfl _ _ 22 rfl w.heap.size 5 i0 (.int .u8 0) 1 Try.underlying22 hi hz0 hz1 _ _ _ _ 512 rfl rfl rfl rfl (by rw [hz2]; omega) (by unfold maxLen; omega) (Nat.le_refl _) ?_)
    intro w1 hown hgrow
    have F : Hid (RdPost w (zerosB 512) 0 (.returned (.tuple #[.slice (some ⟨w.heap.size, 0, none⟩) 512 512, .int .i64 0])) w1) := Lib.hid (by
      refine ⟨some ⟨w.heap.size, 0, none⟩, 512, by rw [zerosB_length], ?_, fun k hk => by rw [← Option.some.inj hk]; exact Nat.le_refl _, (Below.refl _ _).grown hgrow (Nat.le_refl _) (fun k hk => by cases hk)⟩
      rw [zerosB_length]
      exact zeros_reads hown)
    clear hown hgrow
    go_wp2
    go_ret2
    exact F.out
  · have hg' : D.block n = zs := by unfold DiskS.block; rw [show D.put n = some zs by simpa using hg]; rfl
    have hl : zs.length = 512 := (h.wf.len n zs (by simpa using hg)).2
    rw [hg']
    have H := Lib.hid (And.intro hr hl)
    clear hg hg' hm h hb hd hr hl
    go_enter Try.func48, Try.ntmps48
    go_wp2_with (go_at_call 34; refine (clone_bytes _ zs w H.out.1 (fits_of _ (by rw [H.out.2]; omega))).mono ?_; rintro e w1 ⟨v', rfl, hv, hnew, hB⟩; obtain ⟨a', c', rfl⟩ := hv.len; have X := Lib.hid (And.intro hv (And.intro hnew hB)); clear hv hnew hB)
    go_ret2
    exact ⟨a', c', rfl, X.out.1, X.out.2.1, X.out.2.2⟩
set_option maxRecDepth 100000 in
theorem dk_read_dead {w : World} {db : Nat} {F : Nat → Prop} {D : DiskS} (h : DkAt w db F D) (hd : D.dead = true) (n : Int) :
    Calls Try.prog 48 #[.pointer (some ⟨db, 0, none⟩), .int .i64 n] w (RdPost w [] 12) := by
  have c4 := h.c4
  rw [hd] at c4
  go_enter Try.func48, Try.ntmps48
  go_wp2
  go_ret2
  exact ⟨none, 0, rfl, Reads.nil _, fun k hk => (by cases hk), Below.refl _ _⟩

/-- The disk's own blocks alone turned. -/
def DkPost (w : World) (db : Nat) (F : Nat → Prop) (D' : DiskS) (v : Value) (e : Ending) (w' : World) : Prop := e = .returned v ∧ DkAt w' db F D' ∧ Keeps F w w'
/-- One cell of the disk's block turned. -/
theorem DkAt.set3 {w : World} {db : Nat} {F : Nat → Prop} {D : DiskS} (h : DkAt w db F D) (x : Int) (h0 : -1 ≤ x) (h1 : x < 9223372036854775808) : DkAt (w.setCell ⟨db, 3, none⟩ (.int .i64 x)) db F { D with left := x } :=
  h.set rfl rfl ⟨h.wf.lo, h.wf.hi, h.wf.len, h0, h1⟩ (fun k hk => Below.heap_setCell _ _ _ _ hk) (by simp [World.setCell]) (cell_set_ne (fun e => by cases e)) (cell_set_ne (fun e => by cases e)) ((cell_set_ne (fun e => by cases e)).trans h.c2) (cell_set_same h.c3)
    ((cell_set_ne (fun e => by cases e)).trans h.c4) (fun o => by rw [World.frozen?_setCell]; exact h.frz o)
theorem DkAt.set4 {w : World} {db : Nat} {F : Nat → Prop} {D : DiskS} (h : DkAt w db F D) (x : Bool) : DkAt (w.setCell ⟨db, 4, none⟩ (.bool x)) db F { D with dead := x } :=
  h.set rfl rfl ⟨h.wf.lo, h.wf.hi, h.wf.len, h.wf.left, h.wf.left'⟩ (fun k hk => Below.heap_setCell _ _ _ _ hk) (by simp [World.setCell]) (cell_set_ne (fun e => by cases e)) (cell_set_ne (fun e => by cases e)) ((cell_set_ne (fun e => by cases e)).trans h.c2) ((cell_set_ne (fun e => by cases e)).trans h.c3)
    (cell_set_same h.c4) (fun o => by rw [World.frozen?_setCell]; exact h.frz o)
theorem DkAt.set2 {w : World} {db : Nat} {F : Nat → Prop} {D : DiskS} (h : DkAt w db F D) (n : Nat) : DkAt (w.setCell ⟨db, 2, none⟩ (.int .i64 (wrap64 n))) db F { D with writes := n } :=
  h.set rfl rfl ⟨h.wf.lo, h.wf.hi, h.wf.len, h.wf.left, h.wf.left'⟩ (fun k hk => Below.heap_setCell _ _ _ _ hk) (by simp [World.setCell]) (cell_set_ne (fun e => by cases e)) (cell_set_ne (fun e => by cases e)) (cell_set_same h.c2) ((cell_set_ne (fun e => by cases e)).trans h.c3)
    ((cell_set_ne (fun e => by cases e)).trans h.c4) (fun o => by rw [World.frozen?_setCell]; exact h.frz o)
theorem keeps_set {w : World} {b o : Nat} {F : Nat → Prop} (h : F b) (v : Value) : Keeps F w (w.setCell ⟨b, o, none⟩ v) := (Keeps.refl F w).setCell _ v (fun _ => h)

theorem dk_start {w : World} {db : Nat} {F : Nat → Prop} {D : DiskS} (h : DkAt w db F D) : Calls Try.prog 25 #[.pointer (some ⟨db, 0, none⟩)] w (DkPost w db F D.start (.tuple #[])) := by
  have c3 := h.c3
  have c4 := h.c4
  have f3 := h.frz 3
  have f4 := h.frz 4
  go_enter Try.func25, Try.ntmps25
  go_wp2
  go_end0
  exact ⟨rfl, (h.set4 false).set3 (-1) (by decide) (by decide), (keeps_set h.own _).trans (keeps_set h.own _)⟩
theorem dk_cut {w : World} {db : Nat} {F : Nat → Prop} {D : DiskS} (h : DkAt w db F D) (n : Int) (hn : n < 9223372036854775808) : Calls Try.prog 19 #[.pointer (some ⟨db, 0, none⟩), .int .i64 n] w (DkPost w db F (D.cut n) (.tuple #[])) := by
  have c3 := h.c3
  have f3 := h.frz 3
  by_cases h1 : -1 ≤ n
  · have e : D.cut n = { D with left := n } := by unfold DiskS.cut; rw [Int.max_eq_left h1]
    rw [e]
    go_enter Try.func19, Try.ntmps19
    go_wp2
    go_end0
    exact ⟨rfl, h.set3 n h1 hn, keeps_set h.own _⟩
  · have e : D.cut n = { D with left := -1 } := by unfold DiskS.cut; rw [Int.max_eq_right (by omega)]
    rw [e]
    go_enter Try.func19, Try.ntmps19
    go_wp2
    go_end0
    exact ⟨rfl, h.set3 (-1) (by decide) (by decide), keeps_set h.own _⟩

/-- A write. -/
def WrPost (w : World) (db : Nat) (F : Nat → Prop) (R : DiskS × Int) (e : Ending) (w' : World) : Prop := e = .returned (.int .i64 R.2) ∧ ∃ F', DkAt w' db F' R.1 ∧ Moves F F' w w'
theorem dk_write_dead {w : World} {db : Nat} {F : Nat → Prop} {D : DiskS} (h : DkAt w db F D) (hd : D.dead = true) (n : Int) (v : Value) (zs : List UInt8) :
    Calls Try.prog 20 #[.pointer (some ⟨db, 0, none⟩), .int .i64 n, v] w (WrPost w db F (D.write n zs)) := by
  have c4 := h.c4
  rw [hd] at c4
  have e : D.write n zs = (D, 12) := by unfold DiskS.write; rw [if_pos hd]
  rw [e]
  go_enter Try.func20, Try.ntmps20
  go_wp2
  go_ret
  exact ⟨rfl, F, h, Moves.refl _ _⟩
theorem dk_write_cut {w : World} {db : Nat} {F : Nat → Prop} {D : DiskS} (h : DkAt w db F D) (hd : D.dead = false) (hl : D.left = 0) (n : Nat) (hn : n < D.blocks) (v : Value) (zs : List UInt8) (hz : Reads w v zs) (hzl : zs.length = 512) :
    Calls Try.prog 20 #[.pointer (some ⟨db, 0, none⟩), .int .i64 n, v] w (WrPost w db F (D.write n zs)) := by
  have e : D.write n zs = ({ D with dead := true }, 12) := by unfold DiskS.write; rw [if_neg (by simp [hd]), if_neg (by omega), if_pos hl]
  rw [e]
  have c0 := h.c0
  have c3 := h.c3
  have c4 := h.c4
  have f4 := h.frz 4
  rw [hd] at c4
  rw [hl] at c3
  have hb := h.wf.hi
  obtain ⟨a, c, rfl⟩ := hz.len
  rw [hzl]
  have hn0 : (0 : Int) ≤ (n : Int) := by omega
  have hn1 : (n : Int) < (D.blocks : Int) := by omega
  clear e hz hzl hd hl
  go_enter Try.func20, Try.ntmps20
  go_wp2
  go_ret
  exact ⟨rfl, F, h.set4 true, keeps_set h.own _, fun _ h => h, fun _ h => .inl h⟩

/-- What the map of blocks is behind a store. -/
theorem DkAt.stored {w w1 w2 : World} {db mb m : Nat} {F : Nat → Prop} {D : DiskS} {f : Int → Option Value} {v : Value} {zs : List UInt8} (h : DkAt w db F D) (hc1 : w.cell? ⟨db, 1, none⟩ = some (.map (some mb))) (hB : Below w.heap.size w w1)
    (hf : MapI w mb f (cnt (fun k => (D.put k).isSome) D.blocks) ∧ (∀ x v, f x = some v → 0 ≤ x ∧ ∃ zs, D.put x.toNat = some zs ∧ Reads w v zs ∧ ∀ k, v.ownBlock = some k → F k ∧ k ≠ db ∧ k ≠ mb) ∧ ∀ (m : Nat) zs, D.put m = some zs → (f m).isSome = true)
    (hr : Reads w1 v zs) (hv : ∀ k, v.ownBlock = some k → w.heap.size ≤ k) (hz : zs.length = 512) (hm : m < D.blocks)
    (h2 : MapI w2 mb (upd f m (some v)) (if (f m).isSome then cnt (fun k => (D.put k).isSome) D.blocks else cnt (fun k => (D.put k).isSome) D.blocks + 1)) (hon : Only mb w1 w2) :
    DkAt w2 db (fun k => F k ∨ v.ownBlock = some k) { D with put := updN D.put m (some zs) } ∧ Moves F (fun k => F k ∨ v.ownBlock = some k) w w2 := by
  obtain ⟨mb', h1, hFm, hne, hmap⟩ := h.by'
  obtain rfl : mb = mb' := by rw [hc1] at h1; cases h1; rfl
  have hlt := h.lt
  have hmlt := hmap.blt
  have hbdb : w2.heap[db]? = w.heap[db]? := (hon.2.2.2.2 db (Ne.symm hne)).trans (hB.block db hlt)
  have hs : w.heap.size ≤ w2.heap.size := by rw [hon.2.2.2.1]; exact hB.size
  refine ⟨⟨⟨h.wf.lo, h.wf.hi, fun n b hb => ?_, h.wf.left, h.wf.left'⟩, (World.cell?_of_block hbdb).trans h.c0, (World.cell?_of_block hbdb).trans h.c2, (World.cell?_of_block hbdb).trans h.c3, (World.cell?_of_block hbdb).trans h.c4,
    ⟨mb, (World.cell?_of_block hbdb).trans h1, .inl hFm, hne, ?_⟩, fun o => (World.frozen?_of_block hbdb).trans (h.frz o), .inl h.own, fun k hk => ?_⟩, ?_⟩
  · change updN D.put m (some zs) n = some b at hb
    by_cases e : n = m
    · subst e
      rw [updN_same] at hb
      cases hb
      exact ⟨hm, hz⟩
    · rw [updN_other _ _ _ e] at hb
      exact h.wf.len n b hb
  · have hmap1 : BMap w1 (fun k => F k ∧ k ≠ db ∧ k ≠ mb) mb D.put D.blocks := hmap.stay (hB.block mb hmlt) (fun k hk _ => hB.block k hk) hB.size
    refine BMap.put (G := fun k => (F k ∨ v.ownBlock = some k) ∧ k ≠ db ∧ k ≠ mb) hmap1 ⟨fun x u hx => ?_, hf.2.2⟩ h2 hon hr (fun k hk => ⟨.inr hk, ?_, ?_⟩) (fun k hk => ⟨.inl hk.1, hk.2⟩) (fun k hk => hk.2.2) hm
    · obtain ⟨h0, ys, hg, hry, ho⟩ := hf.2.1 x u hx
      exact ⟨h0, ys, hg, hry.below hB, ho⟩
    · have := hv k hk; omega
    · have := hv k hk; omega
  · rcases hk with hk | hk
    · exact Nat.lt_of_lt_of_le (h.lim k hk) hs
    · rw [hon.2.2.2.1]; exact hr.blk k hk
  · exact ⟨(Keeps.of_below hB).trans' (hon.keeps (F := F) (fun _ => hFm)) (fun j _ hj => hj), fun k hk => .inl hk, fun k hk => hk.imp id (hv k)⟩

/-- What the walk of a write knows of the map of blocks. -/
structure PutAt (w : World) (db mb : Nat) (F : Nat → Prop) (D : DiskS) (f : Int → Option Value) : Prop where
  at' : DkAt w db F D
  c1 : w.cell? ⟨db, 1, none⟩ = some (.map (some mb))
  ne : mb ≠ db
  map : MapI w mb f (cnt (fun k => (D.put k).isSome) D.blocks)
  f1 : ∀ x v, f x = some v → 0 ≤ x ∧ ∃ zs, D.put x.toNat = some zs ∧ Reads w v zs ∧ ∀ k, v.ownBlock = some k → F k ∧ k ≠ db ∧ k ≠ mb
  f2 : ∀ (m : Nat) zs, D.put m = some zs → (f m).isSome = true
theorem DkAt.putAt {w : World} {db : Nat} {F : Nat → Prop} {D : DiskS} (h : DkAt w db F D) : ∃ mb f, PutAt w db mb F D f := by
  obtain ⟨mb, k1, hFm, hne, hmap⟩ := h.by'
  obtain ⟨f, h1, h2, h3⟩ := hmap.ex
  exact ⟨mb, f, h, k1, hne, h1, h2, h3⟩
theorem PutAt.room {w : World} {db mb : Nat} {F : Nat → Prop} {D : DiskS} {f : Int → Option Value} (h : PutAt w db mb F D f) : cnt (fun k => (D.put k).isSome) D.blocks < maxLen := by
  have h1 := cnt_le (fun k => (D.put k).isSome) D.blocks
  have h2 := h.at'.wf.hi
  unfold maxLen
  omega
theorem PutAt.stored {w w1 w2 : World} {db mb m : Nat} {F : Nat → Prop} {D : DiskS} {f : Int → Option Value} {v : Value} {zs : List UInt8} (h : PutAt w db mb F D f) (hB : Below w.heap.size w w1)
    (hr : Reads w1 v zs) (hv : ∀ k, v.ownBlock = some k → w.heap.size ≤ k) (hz : zs.length = 512) (hm : m < D.blocks)
    (h2 : MapI w2 mb (upd f m (some v)) (if (f m).isSome then cnt (fun k => (D.put k).isSome) D.blocks else cnt (fun k => (D.put k).isSome) D.blocks + 1)) (hon : Only mb w1 w2) :
    DkAt w2 db (fun k => F k ∨ v.ownBlock = some k) { D with put := updN D.put m (some zs) } ∧ Moves F (fun k => F k ∨ v.ownBlock = some k) w w2 :=
  h.at'.stored h.c1 hB ⟨h.map, h.f1, h.f2⟩ hr hv hz hm h2 hon

theorem wrap_succ (n : Nat) : wrap64 (wrap64 (n : Int) + 1) = wrap64 ((n + 1 : Nat) : Int) := by
  have e : ((n + 1 : Nat) : Int) = (n : Int) + 1 := by omega
  rw [e]
  unfold wrap64
  omega
theorem done_pos (D : DiskS) (n : Nat) (zs : List UInt8) (h : 0 < D.left) : D.done n zs = ⟨D.blocks, updN D.put n (some zs), D.writes + 1, D.left - 1, D.dead⟩ := by unfold DiskS.done; rw [if_pos h]
theorem done_neg (D : DiskS) (n : Nat) (zs : List UInt8) (h : D.left < 0) : D.done n zs = ⟨D.blocks, updN D.put n (some zs), D.writes + 1, D.left, D.dead⟩ := by unfold DiskS.done; rw [if_neg (by omega)]

set_option maxRecDepth 100000 in
set_option maxHeartbeats 800000 in
theorem dk_write_ok {w : World} {db : Nat} {F : Nat → Prop} {D : DiskS} (h : DkAt w db F D) (hd : D.dead = false) (hl : 0 < D.left) (n : Nat) (hn : n < D.blocks) (v : Value) (zs : List UInt8) (hz : Reads w v zs) (hzl : zs.length = 512) (hap : ∀ k, v.ownBlock = some k → ¬ F k) :
    Calls Try.prog 20 #[.pointer (some ⟨db, 0, none⟩), .int .i64 n, v] w (WrPost w db F (D.write n zs)) := by
  have e : D.write n zs = (D.done n zs, 0) := by unfold DiskS.write; rw [if_neg (by simp [hd]), if_neg (by omega), if_neg (by omega)]; rfl
  rw [e]
  have hK : Keeps F w (w.setCell ⟨db, 3, none⟩ (.int .i64 (D.left - 1))) := keeps_set h.own _
  obtain ⟨mb, f, HP⟩ := (h.set3 (D.left - 1) (by have := h.wf.left; omega) (by have := h.wf.left'; omega)).drew.putAt
  have c0 := h.c0
  have c1 : w.cell? ⟨db, 1, none⟩ = some (.map (some mb)) := by rw [← HP.c1]; exact (cell_set_ne (fun e => by cases e)).symm
  have c2 := h.c2
  have c3 := h.c3
  have c4 := h.c4
  have f2 := h.frz 2
  have f3 := h.frz 3
  rw [hd] at c4
  have hb := h.wf.hi
  have hle := h.wf.left'
  have hdb := h.lt
  obtain ⟨a, c, rfl⟩ := hz.len
  rw [hzl] at hz hap ⊢
  have HZ := Lib.hid (And.intro (hz.keeps hK hap).drew (And.intro hzl (And.intro hK HP)))
  have hn0 : (0 : Int) ≤ (n : Int) := by omega
  have hn1 : (n : Int) < (D.blocks : Int) := by omega
  have hnw : (Lit.int .i64 (n : Int)).wf = true := wf_small n (by omega)
  have HN := Lib.hid (And.intro hn (And.intro h.own (done_pos D n zs hl)))
  clear e hz hzl hd hK HP h hap hn
  go_enter Try.func20, Try.ntmps20
  go_wp2
  go_region_with (first
    | (go_at_call 34; go_must (refine (clone_bytes _ zs _ HZ.out.1 (fits_of _ (by rw [HZ.out.2.1]; omega))).mono ?_; rintro e w1 ⟨v', rfl, hv, hnew, hB⟩; obtain ⟨a', c', hv'⟩ := hv.len; rw [HZ.out.2.1] at hv'; subst hv'); have k1 : w1.cell? ⟨db, 1, none⟩ = some (.map (some mb)) := (hB.cell (p := ⟨db, 1, none⟩) HZ.out.2.2.2.at'.lt).trans HZ.out.2.2.2.c1; have X := Lib.hid (And.intro hv (And.intro hnew hB)); clear hv hnew hB)
    | (refine upon_storeI 57 3 22 Try.underlying3 Try.underlying57 mb _ f (HZ.out.2.2.2.map.below X.out.2.2) HZ.out.2.2.2.room n hnw _ ?_; intro w2 hm2 hon2; have Y := Lib.hid (HZ.out.2.2.2.stored X.out.2.2 X.out.1 X.out.2.1 HZ.out.2.1 HN.out.1 hm2 hon2); clear hm2 hon2))
  all_goals
    have g2 : w2.cell? ⟨db, 2, none⟩ = some (.int .i64 (wrap64 D.writes)) := Y.out.1.c2
    have z2 := Y.out.1.frz 2
    go_wp2_with (go_at_call 40; refine (at_add g2 z2).mono ?_; rintro e w3 ⟨rfl, rfl⟩)
    go_ret
    refine ⟨rfl, _, ?_, ((Moves.of_keeps HZ.out.2.2.1).trans Y.out.2.undrew).set HN.out.2.1 _⟩
    rw [wrap_succ, HN.out.2.2]
    exact Y.out.1.set2 (D.writes + 1)
set_option maxRecDepth 100000 in
set_option maxHeartbeats 800000 in
theorem dk_write_free {w : World} {db : Nat} {F : Nat → Prop} {D : DiskS} (h : DkAt w db F D) (hd : D.dead = false) (hl : D.left < 0) (n : Nat) (hn : n < D.blocks) (v : Value) (zs : List UInt8) (hz : Reads w v zs) (hzl : zs.length = 512) (hap : ∀ k, v.ownBlock = some k → ¬ F k) :
    Calls Try.prog 20 #[.pointer (some ⟨db, 0, none⟩), .int .i64 n, v] w (WrPost w db F (D.write n zs)) := by
  have e : D.write n zs = (D.done n zs, 0) := by unfold DiskS.write; rw [if_neg (by simp [hd]), if_neg (by omega), if_neg (by omega)]; rfl
  rw [e]
  have hK : Keeps F w w := Keeps.refl _ _
  obtain ⟨mb, f, HP⟩ := h.drew.putAt
  have c0 := h.c0
  have c1 : w.cell? ⟨db, 1, none⟩ = some (.map (some mb)) := HP.c1
  have c2 := h.c2
  have c3 := h.c3
  have c4 := h.c4
  have f2 := h.frz 2
  have f3 := h.frz 3
  rw [hd] at c4
  have hb := h.wf.hi
  have hle := h.wf.left'
  have hdb := h.lt
  obtain ⟨a, c, rfl⟩ := hz.len
  rw [hzl] at hz hap ⊢
  have HZ := Lib.hid (And.intro hz.drew (And.intro hzl (And.intro hK HP)))
  have hn0 : (0 : Int) ≤ (n : Int) := by omega
  have hn1 : (n : Int) < (D.blocks : Int) := by omega
  have hnw : (Lit.int .i64 (n : Int)).wf = true := wf_small n (by omega)
  have HN := Lib.hid (And.intro hn (And.intro h.own (done_neg D n zs hl)))
  clear e hz hzl hd hK HP h hap hn
  go_enter Try.func20, Try.ntmps20
  go_wp2
  go_region_with (first
    | (go_at_call 34; go_must (refine (clone_bytes _ zs _ HZ.out.1 (fits_of _ (by rw [HZ.out.2.1]; omega))).mono ?_; rintro e w1 ⟨v', rfl, hv, hnew, hB⟩; obtain ⟨a', c', hv'⟩ := hv.len; rw [HZ.out.2.1] at hv'; subst hv'); have k1 : w1.cell? ⟨db, 1, none⟩ = some (.map (some mb)) := (hB.cell (p := ⟨db, 1, none⟩) HZ.out.2.2.2.at'.lt).trans HZ.out.2.2.2.c1; have X := Lib.hid (And.intro hv (And.intro hnew hB)); clear hv hnew hB)
    | (refine upon_storeI 57 3 22 Try.underlying3 Try.underlying57 mb _ f (HZ.out.2.2.2.map.below X.out.2.2) HZ.out.2.2.2.room n hnw _ ?_; intro w2 hm2 hon2; have Y := Lib.hid (HZ.out.2.2.2.stored X.out.2.2 X.out.1 X.out.2.1 HZ.out.2.1 HN.out.1 hm2 hon2); clear hm2 hon2))
  all_goals
    have g2 : w2.cell? ⟨db, 2, none⟩ = some (.int .i64 (wrap64 D.writes)) := Y.out.1.c2
    have z2 := Y.out.1.frz 2
    go_wp2_with (go_at_call 40; refine (at_add g2 z2).mono ?_; rintro e w3 ⟨rfl, rfl⟩)
    go_ret
    refine ⟨rfl, _, ?_, ((Moves.of_keeps HZ.out.2.2.1).trans Y.out.2.undrew).set HN.out.2.1 _⟩
    rw [wrap_succ, HN.out.2.2]
    exact Y.out.1.set2 (D.writes + 1)

theorem dk_write {w : World} {db : Nat} {F : Nat → Prop} {D : DiskS} (h : DkAt w db F D) (n : Nat) (hn : n < D.blocks) (v : Value) (zs : List UInt8) (hz : Reads w v zs) (hzl : zs.length = 512) (hap : ∀ k, v.ownBlock = some k → ¬ F k) :
    Calls Try.prog 20 #[.pointer (some ⟨db, 0, none⟩), .int .i64 n, v] w (WrPost w db F (D.write n zs)) := by
  cases hd : D.dead with
  | true => exact dk_write_dead h hd n v zs
  | false =>
    rcases Int.lt_trichotomy D.left 0 with hl | hl | hl
    · exact dk_write_free h hd hl n hn v zs hz hzl hap
    · exact dk_write_cut h hd hl n hn v zs hz hzl
    · exact dk_write_ok h hd hl n hn v zs hz hzl hap

/-- A new disk: it lies in two new blocks. -/
def NewF (w : World) (k : Nat) : Prop := k = w.heap.size ∨ k = w.heap.size + 1
def DkNew (w : World) (n : Nat) (e : Ending) (w' : World) : Prop :=
  e = .returned (.tuple #[.pointer (some ⟨w.heap.size + 1, 0, none⟩), .int .i64 0]) ∧ DkAt w' (w.heap.size + 1) (NewF w) (DiskS.new n) ∧ Below w.heap.size w w'

set_option maxRecDepth 100000 in
theorem dk_new (n : Nat) (h1 : 1 ≤ n) (h2 : n ≤ 16384) (w : World) : Calls Try.prog 10 #[.int .i64 n] w (DkNew w n) := by
  have hmm := @run_makeMap Try.prog
  have hn0 : ¬ (n : Int) < 1 := by omega
  have hn1 : ¬ (16384 : Int) < (n : Int) := by omega
  have hwf : DiskWf (DiskS.new n) := ⟨h1, h2, (fun m b hb => (by cases hb)), (show (-1 : Int) ≤ -1 by decide), (show (-1 : Int) < 9223372036854775808 by decide)⟩
  have hs : Below w.heap.size w ((w.alloc (.map #[] 0)).alloc (.cells #[.int .i64 n, .map (some w.heap.size), .int .i64 0, .int .i64 (-1), .bool false] 64)) := ((Below.refl _ _).alloc (Nat.le_refl _) _).alloc (by simp) _
  go_enter Try.func10, Try.ntmps10
  go_wp2
  go_ret2
  have hb : ((w.alloc (.map #[] 0)).alloc (.cells #[.int .i64 n, .map (some w.heap.size), .int .i64 0, .int .i64 (-1), .bool false] 64)).heap[w.heap.size + 1]? = some (.cells #[.int .i64 n, .map (some w.heap.size), .int .i64 0, .int .i64 (-1), .bool false] 64 (0, 0)) := by
    have := (MapKept.heap_alloc (w.alloc (.map #[] 0)) (.cells #[.int .i64 n, .map (some w.heap.size), .int .i64 0, .int .i64 (-1), .bool false] 64)).1
    simpa using this
  refine ⟨by simp, ⟨hwf, cell_of_row _ _ 0 _ _ _ hb, (cell_of_row _ _ 2 _ _ _ hb).trans (by rw [show wrap64 ((DiskS.new n).writes : Int) = 0 by show wrap64 ((0 : Nat) : Int) = 0; unfold wrap64; omega]; rfl), cell_of_row _ _ 3 _ _ _ hb, cell_of_row _ _ 4 _ _ _ hb, ⟨w.heap.size, cell_of_row _ _ 1 _ _ _ hb, .inl rfl, by omega, ?_⟩, fun o => ?_, .inr rfl, ?_⟩, hs⟩
  · have hm := (BMap.made w (fun k => NewF w k ∧ k ≠ w.heap.size + 1 ∧ k ≠ w.heap.size) n (fun k hk => hk.2.2))
    exact hm.stay ((MapKept.heap_alloc _ _).2 _ (by simp)) (fun k hk _ => (MapKept.heap_alloc _ _).2 _ hk) (by simp)
  · unfold World.frozen?
    rw [hb]
    simp
  · rintro k (rfl | rfl)
    · simp; omega
    · simp
end Go.Proofs.Ytjbomdhlfjcgmaa
