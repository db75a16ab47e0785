/-
  package pager: numbers written and read, a block written.
-/
import Derived.Test.YtjbomdhlfjcgmaaPgM
import Derived.Deep.AppendLies
import Derived.Laws.Bits64b
import Derived.Deep.RegionHeld3
namespace Go.Proofs.Ytjbomdhlfjcgmaa
set_option linter.unusedSimpArgs false
set_option linter.unusedVariables false
open Go.RowKit

/-- Bytes were appended to a row. -/
structure Appd (w w' : World) (v v' : Value) : Prop where
  keeps : Keeps (fun k => v.ownBlock = some k) w w'
  new : v'.ownBlock = v.ownBlock ∨ ∃ k, v'.ownBlock = some k ∧ w.heap.size ≤ k
theorem Appd.refl (w : World) (v : Value) : Appd w w v v := ⟨Keeps.refl _ _, .inl rfl⟩
theorem Appd.trans {w w1 w2 : World} {v v1 v2 : Value} (h : Appd w w1 v v1) (k : Appd w1 w2 v1 v2) : Appd w w2 v v2 := by
  refine ⟨h.keeps.trans' k.keeps (fun j hj e => ?_), ?_⟩
  · rcases h.new with h' | ⟨m, h', hm⟩
    · exact h'.symm.trans e
    · rw [h'] at e; cases e; omega
  · rcases k.new with k' | ⟨m, k', hm⟩
    · rcases h.new with h' | ⟨m, h', hm⟩
      · exact .inl (k'.trans h')
      · exact .inr ⟨m, k'.trans h', hm⟩
    · exact .inr ⟨m, k', Nat.le_trans h.keeps.size hm⟩
theorem Appd.of_below {w w' : World} {v : Value} (h : Below w.heap.size w w') : Appd w w' v v := ⟨Keeps.of_below h, .inl rfl⟩
theorem Appd.grown {w wa w1 : World} {v v' : Value} (ha : Below w.heap.size w wa) (hg : wa.grownBy w1 v.ownBlock) (hn : v.ownBlock = v'.ownBlock ∨ ∃ k, v'.ownBlock = some k ∧ w.heap.size ≤ k) : Appd w w1 v v' :=
  ⟨⟨hg.os.trans ha.os, hg.tape.trans ha.tape, hg.output.trans ha.output, Nat.le_trans ha.size hg.size, fun k hk hF => (hg.block k (Nat.lt_of_lt_of_le hk ha.size) (fun e => hF e.symm)).trans (ha.block k hk)⟩, hn.imp Eq.symm id⟩
theorem Appd.below {w w' : World} {v v' : Value} (h : Appd w w' v v') (hv : ∀ k, v.ownBlock = some k → w.heap.size ≤ k) : Below w.heap.size w w' := h.keeps.below (Nat.le_refl _) (fun j hj e => by have := hv j e; omega)

/-- A row of bytes of the call's own. -/
def Row (w : World) (base : Nat) (v : Value) (zs : List UInt8) : Prop := w.ownsRow base 5 1 v zs.length (bcells zs)
theorem Row.nil (w : World) (base : Nat) : Row w base (.slice none 0 0) [] := World.ownsRow_nil _ _ _ _
theorem Row.reads {w : World} {base : Nat} {v : Value} {zs : List UInt8} (h : Row w base v zs) : Reads w v zs := Reads.of_own h
theorem Row.blk {w : World} {base : Nat} {v : Value} {zs : List UInt8} (h : Row w base v zs) : ∀ k, v.ownBlock = some k → base ≤ k ∧ k < w.heap.size := by
  unfold Row at h
  exact fun k hk => h.lt k hk

def RowPost (w : World) (base : Nat) (v : Value) (zs : List UInt8) (e : Ending) (w' : World) : Prop := ∃ v', e = .returned v' ∧ Row w' base v' zs ∧ Appd w w' v v'

theorem byteOf_div (n g : Nat) : byteOf ((n : Int) / 2 ^ (8 * g)) = UInt8.ofNat (n / 2 ^ (8 * g) % 256) := by
  unfold byteOf
  congr 1
theorem beB_take (size n j g : Nat) (h : j + (g + 1) = size) : (beB size n).take (j + 1) = (beB size n).take j ++ [byteOf ((n : Int) / 2 ^ (8 * g))] := by
  have e := beB_get size n j (by omega)
  rw [List.take_add_one, e, byteOf_div, show size - 1 - j = g by omega]
  rfl

set_option maxHeartbeats 1600000 in
set_option maxRecDepth 100000 in
theorem pg_put (base : Nat) (v : Value) (xs : List UInt8) (size n : Nat) (w : World) (ho : Row w base v xs) (hb : base ≤ w.heap.size) (hs : size ≤ 8) (hn : n < 9223372036854775808) (hl : xs.length ≤ 100000) :
    Calls Try.prog 47 #[v, .int .i64 size, .int .i64 n] w (RowPost w base v (xs ++ beB size n)) := by
  obtain ⟨i0, hi, hz0, hz1, hz2⟩ := info_parts infoU8
  have hs' : (size : Int) ≤ 8 := by omega
  have hn0 : (0 : Int) ≤ (n : Int) := by omega
  have hn1 : (n : Int) < 9223372036854775808 := by omega
  have HB := Lib.hid (And.intro hb (And.intro hs hl))
  have HO := Lib.hid ho
  clear ho hb hs hn hl
  go_enter Try.func47, Try.ntmps47
  go_wp2
  go_loopg [0, 7] size (fun g s0 s7 wr => ∃ j : Nat, j + g = size ∧ s7 = .int .i64 ((g : Int) - 1) ∧ Row wr base s0 (xs ++ (beB size n).take j) ∧ Appd w wr v s0)
  case atStart => exact ⟨0, by omega, rfl, by simpa using HO.out, Appd.refl _ _⟩
  case round =>
    obtain ⟨j, hjg, rfl, hrow, hap⟩ := hrel
    cases gk with
    | zero =>
      have F := Lib.hid (And.intro hrow hap)
      clear hrow hap
      go_wp2
      go_ret
      refine ⟨_, rfl, ?_, F.out.2⟩
      have := F.out.1
      rwa [List.take_of_length_le (by rw [beB_length]; omega)] at this
    | succ g =>
      have e1 : ((g + 1 : Nat) : Int) - 1 = (g : Int) := by omega
      rw [e1]
      have hg0 : (0 : Int) ≤ (g : Int) := by omega
      have hg8 : (g : Int) < 8 := by have := HB.out.2.1; omega
      have s2 : (8 * (g : Int)).toNat = 8 * g := by omega
      have hlen : (xs ++ (beB size n).take j).length ≤ 100008 := by
        have := HB.out
        rw [List.length_append, List.length_take, beB_length]; omega
      generalize hz : xs ++ (beB size n).take j = zs at *
      have HZ := Lib.hid hz
      have HR := Lib.hid (And.intro hrow (And.intro hap hlen))
      clear hz hrow hap hlen e1
      have hfit : Fits (zs.length + 1) := fits_of _ (by have := HR.out.2.2; omega)
      go_wp2_with (at_builtin; refine wpList_append_lies _ rfl (.tmp 14) (.tmp 20) 22 rfl base 5 i0 (.int .u8 0) 1 1 Try.underlying22 hi hz0 hz1 hz2 rfl (by decide) u0 zs.length (bcells zs) rfl (HR.out.1.alloc _) ⟨wr.heap.size, 0, none⟩ 1 1 (bcells [byteOf ((n : Int) / 2 ^ (8 * g))]) rfl rfl (news_one _ _ _ (wrap_byteOf _) _) (bcells_oneCell _) (by decide) hfit.max hfit.reach (by have := HR.out.2.1.keeps.size; have := HB.out.1; simp; omega) (wr.heap.size + 1) (by simp) ?_)
      intro g' cap w1 hown1 hgrow hg hlt
      have F := Lib.hid (And.intro hown1 (HR.out.2.1.trans (Appd.grown (below_alloc wr _) hgrow (own_of_lies (n := zs.length + 1) (cap := cap) hg (by omega)))))
      clear hown1 hgrow hg hlt
      go_wp2
      go_roundg g
      case measure => omega
      case rel =>
        refine ⟨j + 1, by omega, by first | rfl | go_num, ?_, F.out.2⟩
        rw [beB_take size n j g (by omega), ← List.append_assoc, HZ.out]
        have := F.out.1
        unfold Row
        rw [bcells_append, List.length_append]
        exact this

theorem or_get (a b : Nat) (h : a < 36028797018963968) (hb : b < 256) : bits .or .i64 ((a : Int) * 256) (b : Int) = ((a * 256 + b : Nat) : Int) := by
  have h1 : (BitVec.ofInt 64 ((a : Int) * 256)).toNat = a * 256 := by
    rw [show (a : Int) * 256 = ((a * 256 : Nat) : Int) by omega, BitVec.ofInt_natCast, BitVec.toNat_ofNat]; exact Nat.mod_eq_of_lt (by omega)
  have h2 : (BitVec.ofInt 64 (b : Int)).toNat = b := by
    rw [BitVec.ofInt_natCast, BitVec.toNat_ofNat]; exact Nat.mod_eq_of_lt (by omega)
  have h3 : a * 256 ||| b = a * 256 + b := by
    have := Nat.shiftLeft_add_eq_or_of_lt (b := b) (i := 8) (by omega) a
    rw [Nat.shiftLeft_eq] at this
    exact this.symm
  show IntKind.i64.wrap ((BitVec.ofInt 64 ((a : Int) * 256) ||| BitVec.ofInt 64 (b : Int)).toNat : Int) = _
  rw [BitVec.toNat_or, h1, h2, h3]
  exact IntWalk.i64_in _ (by omega)
theorem decNat_take_step (zs : List UInt8) (j : Nat) (x : UInt8) (hx : zs[j]? = some x) : decNat (zs.take (j + 1)) = decNat (zs.take j) * 256 + x.toNat := by
  rw [List.take_add_one, hx]
  exact decNat_snoc _ _
theorem decNat_le_append : ∀ (b a : List UInt8), decNat a ≤ decNat (a ++ b)
  | [], a => by simp
  | x :: r, a => by
    rw [show a ++ x :: r = (a ++ [x]) ++ r by simp]
    exact Nat.le_trans (by rw [decNat_snoc]; omega) (decNat_le_append r (a ++ [x]))
theorem decNat_take_le (zs : List UInt8) (j : Nat) : decNat (zs.take j) ≤ decNat zs := by
  have := decNat_le_append (zs.drop j) (zs.take j)
  rwa [List.take_append_drop] at this

set_option maxHeartbeats 1600000 in
set_option maxRecDepth 100000 in
theorem pg_get (v : Value) (zs : List UInt8) (w : World) (hr : Reads w v zs) (hl : zs.length ≤ 8) (hn : decNat zs < 9223372036854775808) :
    Calls Try.prog 39 #[v] w fun e w' => e = .returned (.int .i64 (decNat zs)) ∧ w = w' := by
  have HN : Hid (∀ j x, zs[j]? = some x → decNat (zs.take j) < 36028797018963968) := Lib.hid (fun j x hx => by
    have h1 := decNat_take_step zs j x hx
    have h2 := decNat_take_le zs (j + 1)
    omega)
  obtain ⟨a, c, rfl⟩ := hr.len
  have HR := Lib.hid hr
  have hl' : (zs.length : Int) ≤ 8 := by omega
  clear hr hn
  go_enter Try.func39, Try.ntmps39
  go_wp2
  go_loop [3, 5, 8] (fun s3 s5 s8 => ∃ j : Nat, j ≤ zs.length ∧ s8 = .int .i64 j ∧ s3 = .int .i64 (decNat (zs.take j))) (fun _ _ s8 => zs.length - (intOf s8).toNat)
  case atStart => exact ⟨0, Nat.zero_le _, rfl, rfl⟩
  case round =>
    obtain ⟨j, hj, rfl, rfl⟩ := hrel
    by_cases hlt : j < zs.length
    · obtain ⟨x, hx⟩ : ∃ x, zs[j]? = some x := ⟨_, List.getElem?_eq_getElem hlt⟩
      have hb := HN.out j x hx
      have HOR : Hid (wrap64 (x.toNat : Int) = (x.toNat : Int) ∧ bits .or .i64 (((decNat (zs.take j) : Nat) : Int) * 256) (x.toNat : Int) = ((decNat (zs.take j) * 256 + x.toNat : Nat) : Int)) := Lib.hid ⟨IntWalk.wrap64_in _ (by have := x.toNat_lt; omega), or_get (decNat (zs.take j)) x.toNat hb x.toNat_lt⟩
      have HX := Lib.hid (decNat_take_step zs j x hx)
      obtain ⟨b, off, hsl, hbl, hcell⟩ : ∃ b off, a = some ⟨b, off, none⟩ ∧ b < w.heap.size ∧ w.cell? ⟨b, off + j, none⟩ = some (.int .u8 (x.toNat : Int)) := by
        rcases HR.out with ⟨h1, h2⟩ | ⟨b, off, cap, h1, h2, h3, h4⟩
        · rw [h2] at hlt; simp at hlt
        · cases h1; exact ⟨b, off, rfl, h3, h4 j x hx⟩
      subst hsl
      have hlt' : (j : Int) < (zs.length : Int) := by omega
      have hb' : ((decNat (zs.take j) : Nat) : Int) < 36028797018963968 := by omega
      clear hx
      go_wp2
      go_round
      case rel => exact ⟨j + 1, by omega, by go_num, by rw [HX.out, HOR.out.1, HOR.out.2]⟩
      case measure => simp [intOf]; omega
    · obtain rfl : j = zs.length := by omega
      have HT : Hid (decNat (zs.take zs.length) = decNat zs) := Lib.hid (by rw [List.take_length])
      go_wp2
      go_ret
      exact ⟨ret_int (by first | rfl | rw [HT.out]), rfl⟩

/-- The cells of the pager's block, but for a counter. -/
structure TickRow (pb o : Nat) (w w' : World) : Prop where
  row : ∀ o', o' ≠ o → w'.cell? ⟨pb, o', none⟩ = w.cell? ⟨pb, o', none⟩
  tick : ∃ x, w'.cell? ⟨pb, o, none⟩ = some (.int .i64 x)
  frz : ∀ o', w'.frozen? ⟨pb, o', none⟩ = w.frozen? ⟨pb, o', none⟩
theorem Ticks.tr {pb o : Nat} {w w' : World} (h : Ticks pb o w w') : TickRow pb o w w' := ⟨h.row, h.tick, h.frz⟩
theorem TickRow.on {pb o : Nat} {w w1 w2 : World} (h : TickRow pb o w w1) (hp : w2.heap[pb]? = w1.heap[pb]?) : TickRow pb o w w2 :=
  ⟨fun o' ho => (World.cell?_of_block hp).trans (h.row o' ho), h.tick.imp fun _ e => (World.cell?_of_block hp).trans e, fun o' => (World.frozen?_of_block hp).trans (h.frz o')⟩
theorem TickRow.trans {pb o : Nat} {w w1 w2 : World} (h : TickRow pb o w w1) (k : TickRow pb o w1 w2) : TickRow pb o w w2 :=
  ⟨fun o' ho => (k.row o' ho).trans (h.row o' ho), k.tick, fun o' => (k.frz o').trans (h.frz o')⟩

/-- A block was written by the pager: the disk, its blocks; the pager's counter; the row that was handed in may have grown. -/
def WrPgPost (w : World) (pb db : Nat) (G : Nat → Prop) (v : Value) (R : DiskS × Int) (e : Ending) (w' : World) : Prop :=
  e = .returned (.int .i64 R.2) ∧ ∃ G', DkAt w' db G' R.1 ∧ (∀ k, G k → G' k) ∧ (∀ k, G' k → G k ∨ v.ownBlock = some k ∨ w.heap.size ≤ k) ∧ Keeps (fun k => G k ∨ k = pb ∨ v.ownBlock = some k) w w' ∧ TickRow pb 12 w w'

theorem WrPgPost.row {w w' : World} {pb db : Nat} {G : Nat → Prop} {v : Value} {R : DiskS × Int} {e : Ending} (h : WrPgPost w pb db G v R e w') : TickRow pb 12 w w' := by
  obtain ⟨_, G', _, _, _, _, h⟩ := h
  exact h
/-- Behind the noughts. -/
structure Padded (w w2 : World) (pb db : Nat) (G : Nat → Prop) (D : DiskS) (base : Nat) (v v2 : Value) (zs : List UInt8) : Prop where
  dk : DkAt w2 db G D
  own : Row w2 base v2 zs
  ap : ∀ k, v2.ownBlock = some k → ¬ G k
  new : ∀ k, v2.ownBlock = some k → v.ownBlock = some k ∨ w.heap.size ≤ k
  keeps : Keeps (fun k => G k ∨ k = pb ∨ v.ownBlock = some k) w w2
  row : TickRow pb 12 w w2
theorem padB_eq (zs : List UInt8) : padB zs = zs ++ zerosB (512 - zs.length) := rfl
theorem padded {w W w2 : World} {pb db : Nat} {G : Nat → Prop} {D : DiskS} {base : Nat} {v v2 : Value} {zs ys : List UInt8} (hd : DkAt W db G D) (T : Ticks pb 12 w W) (hpb : pb < w.heap.size) (hv : ∀ k, v.ownBlock = some k → ¬ G k ∧ k ≠ pb)
    (hown : w2.ownsRow base 5 1 v2 (zs.length + ys.length) (bcells zs ++ bcells ys)) (hgrow : W.grownBy w2 v.ownBlock) (hnew : v2.ownBlock = v.ownBlock ∨ v2.ownBlock = some W.heap.size) : Padded w w2 pb db G D base v v2 (zs ++ ys) := by
  have hK : Keeps (fun k => v.ownBlock = some k) W w2 := ⟨hgrow.os, hgrow.tape, hgrow.output, hgrow.size, fun k hk hF => hgrow.block k hk (fun e => hF e.symm)⟩
  refine ⟨hd.keeps hK (fun k hk e => (hv k e).1 hk), by unfold Row; rw [bcells_append, List.length_append]; exact hown, fun k hk hG => ?_, fun k hk => ?_, ?_, T.tr.on (hK.block pb (Nat.lt_of_lt_of_le hpb T.keeps.size) (fun e => (hv pb e).2 rfl))⟩
  · rcases hnew with e | e
    · exact (hv k (e.symm.trans hk)).1 hG
    · rw [e] at hk; cases hk; exact absurd (hd.lim _ hG) (Nat.lt_irrefl _)
  · rcases hnew with e | e
    · exact .inl (e.symm.trans hk)
    · rw [e] at hk; cases hk; exact .inr T.keeps.size
  · exact (T.keeps.mono (fun _ _ h => .inr (.inl h))).trans (hK.mono (fun _ _ h => .inr (.inr h)))
theorem Padded.wrote {w w2 w3 : World} {pb db : Nat} {G G' : Nat → Prop} {D : DiskS} {base : Nat} {v v2 : Value} {zs : List UInt8} {R : DiskS × Int} (h : Padded w w2 pb db G D base v v2 zs) (hpb : pb < w.heap.size) (hG : ¬ G pb) (hd : DkAt w3 db G' R.1) (hm : Moves G G' w2 w3) :
    WrPgPost w pb db G v R (.returned (.int .i64 R.2)) w3 :=
  ⟨rfl, G', hd, hm.up, fun k hk => (hm.new k hk).imp id (fun h' => .inr (Nat.le_trans h.keeps.size h')), h.keeps.trans (hm.keeps.mono (fun _ _ h => .inl h)), h.row.on (hm.keeps.block pb (Nat.lt_of_lt_of_le hpb h.keeps.size) hG)⟩

attribute [local irreducible] DiskS.write zerosB padB
set_option maxHeartbeats 1600000 in
set_option maxRecDepth 100000 in
theorem pg_write {w : World} {pb db : Nat} {G : Nat → Prop} {D : DiskS} {x : Int} (h : DkAt w db G D) (hpb : pb < w.heap.size) (hG : ¬ G pb) (c0 : w.cell? ⟨pb, 0, none⟩ = some (.pointer (some ⟨db, 0, none⟩)))
    (c12 : w.cell? ⟨pb, 12, none⟩ = some (.int .i64 x)) (f12 : w.frozen? ⟨pb, 12, none⟩ = false) (n : Nat) (hn : n < D.blocks) (base : Nat) (v : Value) (zs : List UInt8) (ho : Row w base v zs) (hb : base ≤ w.heap.size) (hz : zs.length ≤ 512)
    (hv : ∀ k, v.ownBlock = some k → ¬ G k ∧ k ≠ pb) : Calls Try.prog 46 #[.pointer (some ⟨pb, 0, none⟩), .int .i64 n, v] w (WrPgPost w pb db G v (D.write n (padB zs))) := by
  obtain ⟨i0, hi, hz0, hz1, hz2⟩ := info_parts infoU8
  have T := Ticks.set pb 12 w c12 (wrap64 (x + 1))
  have hvp : v.ownBlock ≠ some pb := fun e => (hv pb e).2 rfl
  have ho1 : Row (w.setCell ⟨pb, 12, none⟩ (.int .i64 (wrap64 (x + 1)))).drew base v zs := by
    have := ownsRow_setCell_other ho (a := ⟨pb, 12, none⟩) (fun e => hvp e) (.int .i64 (wrap64 (x + 1)))
    exact this
  have HH := Lib.hid (And.intro (h.keeps T.keeps (fun k hk e => hG (by rw [← e]; exact hk))).drew (And.intro ho1 (And.intro T (And.intro hv (And.intro hb hn)))))
  obtain ⟨av, cv, rfl⟩ := ho1.reads.len
  have hz' : (zs.length : Int) ≤ 512 := by omega
  have hz0' : (0 : Int) ≤ 512 - (zs.length : Int) := by omega
  have HK : Hid ((512 : Int) - (zs.length : Int) = ((512 - zs.length : Nat) : Int) ∧ IntKind.i64.wrap (512 - (zs.length : Int)) = 512 - (zs.length : Int)) := Lib.hid ⟨by omega, IntWalk.i64_in _ (by omega)⟩
  have hk : IntKind.i64.wrap (512 - (zs.length : Int)) = ((512 - zs.length : Nat) : Int) := by rw [HK.out.2, HK.out.1]
  have HL := Lib.hid (And.intro hz (And.intro hpb hG))
  clear h ho ho1 T hv hvp hb hn hz hG hz'
  go_enter Try.func46, Try.ntmps46
  go_wp2_with (go_at_call 40; refine (at_add c12 f12).mono ?_; rintro e w3 ⟨rfl, rfl⟩)
  have q0 := (HH.out.2.2.1.row 0 (by omega)).trans c0
  go_region_held3 (fun w' => w'.cell? ⟨pb, 0, none⟩ = some (.pointer (some ⟨db, 0, none⟩))) (first | exact q0 | exact k0 | exact k1 | go_keep) (first
    | (go_simp; go_at_call 20; go_must (refine (dk_write D1.out.dk n HH.out.2.2.2.2.2 v2 (padB zs) D1.out.own.reads (padB_length HL.out.1) D1.out.ap).mono ?_; rintro e w3 ⟨rfl, G', hd', hm'⟩; have X := Lib.hid (D1.out.wrote HL.out.2.1 HL.out.2.2 hd' hm'); have k1 := (X.out.row.row 0 (by omega)).trans c0; clear hd' hm'))
    | (refine step_append_zeros _ rfl (.tmp 16) (.tmp 19) 22 3 9 rfl base 5 i0 .i64 .i64 Try.underlying22 Try.underlying3 Try.underlying9 hi hz0 hz1 hz2 _ _ _ rfl HH.out.2.1 (512 - zs.length) (by simp [Act.eval, hk]) (by unfold maxLen; have := HL.out.1; omega) (by have := HL.out.1; omega) (by have := HH.out.2.2.2.2.1; simpa [World.setCell] using this) ?_; intro v2 w2 hown2 hgrow2 hnew2; have D1 : Hid (Padded w w2 pb db G D base _ v2 (padB zs)) := Lib.hid (padB_eq zs ▸ padded (base := base) (zs := zs) (ys := zerosB (512 - zs.length)) HH.out.1 HH.out.2.2.1.drew HL.out.2.1 HH.out.2.2.2.1 (by rw [zerosB_length]; unfold zerosB; exact hown2) hgrow2 hnew2); have k0 := (D1.out.row.row 0 (by omega)).trans c0; clear hown2 hgrow2 hnew2))
  go_wp2
  go_ret
  exact X.out
end Go.Proofs.Ytjbomdhlfjcgmaa
