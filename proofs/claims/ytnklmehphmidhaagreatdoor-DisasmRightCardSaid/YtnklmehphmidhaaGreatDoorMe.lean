/- disasm: numbers, statements, operands, DB, the first instruction of the 8080's (Intel). -/
import Derived.Test.YtnklmehphmidhaaGreatDoorMa
import Derived.Test.YtnklmehphmidhaaGreatDoorMd
import Derived.Deep.RegionHeld3
import Derived.Deep.AppendLies
namespace Go.Proofs.YtnklmehphmidhaaGreatDoor
section
set_option linter.unusedVariables false
open Go.RowKit
set_option maxRecDepth 100000
set_option maxHeartbeats 1000000
set_option linter.unusedSimpArgs false

theorem number_any (n : Int) (w : World) : Calls Tryz.prog 41 #[.int .u16 n] w fun e w' => e = .returned (.agg #[.string ⟨#[35]⟩, .int .u16 n, .string ⟨#[]⟩, .slice none 0 0]) ∧ Ext w w' := by
  go_enter Tryz.func41, Tryz.ntmps41
  go_wp2
  refine bodyPost_ret (res1 rfl _ _ _ w.heap.size _ rfl (load39 (Blk.new _ _ _))) rfl ⟨rfl, ?_⟩
  repeat (first | exact Ext.refl _ | apply Ext.alloc | (refine Ext.setCell ?_ (by simp) _))

theorem stmt_any (op : ByteArray) (A : Option Addr) (n c : Nat) (w : World) : Calls Tryz.prog 17 #[.string op, .slice A n c] w fun e w' => e = .returned (.agg #[.string ⟨#[]⟩, .bool false, .string op, .slice A n c]) ∧ Ext w w' := by
  go_enter Tryz.func17, Tryz.ntmps17
  go_wp2
  refine bodyPost_ret (res1 rfl _ _ _ w.heap.size _ rfl (load31 (Blk.new _ _ _))) rfl ⟨rfl, ?_⟩
  repeat (first | exact Ext.refl _ | apply Ext.alloc | (refine Ext.setCell ?_ (by simp) _))

/-- An operand: a word; or (in parentheses: mem) an expression of an operator, a number, a name. -/
structure AR where
  word : ByteArray
  mem : Bool
  op : ByteArray
  n : Int
  name : ByteArray

def numA (mem : Bool) (n : Int) : AR := ⟨⟨#[]⟩, mem, ⟨#[35]⟩, n, ⟨#[]⟩⟩
def operandS (s : ByteArray) (n : Int) : AR :=
  if isS s [100, 56] = true ∨ isS s [100, 49, 54] = true ∨ isS s [110] = true ∨ isS s [110, 110] = true then numA false n
  else if isS s [40, 110, 41] = true ∨ isS s [40, 110, 110, 41] = true then numA true n
  else ⟨s, false, ⟨#[]⟩, 0, ⟨#[]⟩⟩

/-- An operand's cells. -/
def AR.cells (a : AR) : List Value := [.string a.word, .string ⟨#[]⟩, .bool false, .bool a.mem, .string a.op, .int .u16 a.n, .string a.name, .slice none 0 0]

theorem operand_any (s : ByteArray) (n : Int) (w : World) : Calls Tryz.prog 18 #[.string s, .int .u16 n] w fun e w' => e = .returned (.agg #[.string (operandS s n).word, .string ⟨#[]⟩, .bool false, .bool (operandS s n).mem, .string (operandS s n).op, .int .u16 (operandS s n).n, .string (operandS s n).name, .slice none 0 0]) ∧ Ext w w' := by
  rcases Bool.eq_false_or_eq_true (s.toList == [100, 56]) with t1 | t1
  · have hS : operandS s n = numA false n := by simp only [operandS, isS_eq]; simp [*]
    rw [hS]; clear hS
    go_enter Tryz.func18, Tryz.ntmps18
    go_wp2_with (go_at_call 41; refine (number_any _ _).mono ?_; rintro e w1 ⟨rfl, hx⟩; have hB := (Blk.new _ _ _).ext hx; have k := hB.cell; have f := hB.frozen)
    refine bodyPost_ret (res1 rfl _ _ _ w.heap.size _ rfl (by simp (maxDischargeDepth := 20) [go_sem, k, numA])) rfl ⟨rfl, ?_⟩
    with_reducible repeat (first | exact Ext.refl _ | apply Ext.alloc | (refine Ext.setCell ?_ (by simp) _) | (refine Ext.trans ?_ hx))
  rcases Bool.eq_false_or_eq_true (s.toList == [100, 49, 54]) with t2 | t2
  · have hS : operandS s n = numA false n := by simp only [operandS, isS_eq]; simp [*]
    rw [hS]; clear hS
    go_enter Tryz.func18, Tryz.ntmps18
    go_wp2_with (go_at_call 41; refine (number_any _ _).mono ?_; rintro e w1 ⟨rfl, hx⟩; have hB := (Blk.new _ _ _).ext hx; have k := hB.cell; have f := hB.frozen)
    refine bodyPost_ret (res1 rfl _ _ _ w.heap.size _ rfl (by simp (maxDischargeDepth := 20) [go_sem, k, numA])) rfl ⟨rfl, ?_⟩
    with_reducible repeat (first | exact Ext.refl _ | apply Ext.alloc | (refine Ext.setCell ?_ (by simp) _) | (refine Ext.trans ?_ hx))
  rcases Bool.eq_false_or_eq_true (s.toList == [110]) with t3 | t3
  · have hS : operandS s n = numA false n := by simp only [operandS, isS_eq]; simp [*]
    rw [hS]; clear hS
    go_enter Tryz.func18, Tryz.ntmps18
    go_wp2_with (go_at_call 41; refine (number_any _ _).mono ?_; rintro e w1 ⟨rfl, hx⟩; have hB := (Blk.new _ _ _).ext hx; have k := hB.cell; have f := hB.frozen)
    refine bodyPost_ret (res1 rfl _ _ _ w.heap.size _ rfl (by simp (maxDischargeDepth := 20) [go_sem, k, numA])) rfl ⟨rfl, ?_⟩
    with_reducible repeat (first | exact Ext.refl _ | apply Ext.alloc | (refine Ext.setCell ?_ (by simp) _) | (refine Ext.trans ?_ hx))
  rcases Bool.eq_false_or_eq_true (s.toList == [110, 110]) with t4 | t4
  · have hS : operandS s n = numA false n := by simp only [operandS, isS_eq]; simp [*]
    rw [hS]; clear hS
    go_enter Tryz.func18, Tryz.ntmps18
    go_wp2_with (go_at_call 41; refine (number_any _ _).mono ?_; rintro e w1 ⟨rfl, hx⟩; have hB := (Blk.new _ _ _).ext hx; have k := hB.cell; have f := hB.frozen)
    refine bodyPost_ret (res1 rfl _ _ _ w.heap.size _ rfl (by simp (maxDischargeDepth := 20) [go_sem, k, numA])) rfl ⟨rfl, ?_⟩
    with_reducible repeat (first | exact Ext.refl _ | apply Ext.alloc | (refine Ext.setCell ?_ (by simp) _) | (refine Ext.trans ?_ hx))
  rcases Bool.eq_false_or_eq_true (s.toList == [40, 110, 41]) with t5 | t5
  · have hS : operandS s n = numA true n := by simp only [operandS, isS_eq]; simp [*]
    rw [hS]; clear hS
    go_enter Tryz.func18, Tryz.ntmps18
    go_wp2_with (go_at_call 41; refine (number_any _ _).mono ?_; rintro e w1 ⟨rfl, hx⟩; have hB := (Blk.new _ _ _).ext hx; have k := hB.cell; have f := hB.frozen)
    refine bodyPost_ret (res1 rfl _ _ _ w.heap.size _ rfl (by simp (maxDischargeDepth := 20) [go_sem, k, numA])) rfl ⟨rfl, ?_⟩
    with_reducible repeat (first | exact Ext.refl _ | apply Ext.alloc | (refine Ext.setCell ?_ (by simp) _) | (refine Ext.trans ?_ hx))
  rcases Bool.eq_false_or_eq_true (s.toList == [40, 110, 110, 41]) with t6 | t6
  · have hS : operandS s n = numA true n := by simp only [operandS, isS_eq]; simp [*]
    rw [hS]; clear hS
    go_enter Tryz.func18, Tryz.ntmps18
    go_wp2_with (go_at_call 41; refine (number_any _ _).mono ?_; rintro e w1 ⟨rfl, hx⟩; have hB := (Blk.new _ _ _).ext hx; have k := hB.cell; have f := hB.frozen)
    refine bodyPost_ret (res1 rfl _ _ _ w.heap.size _ rfl (by simp (maxDischargeDepth := 20) [go_sem, k, numA])) rfl ⟨rfl, ?_⟩
    with_reducible repeat (first | exact Ext.refl _ | apply Ext.alloc | (refine Ext.setCell ?_ (by simp) _) | (refine Ext.trans ?_ hx))
  have hS : operandS s n = ⟨s, false, ⟨#[]⟩, 0, ⟨#[]⟩⟩ := by simp only [operandS, isS_eq]; simp [*]
  rw [hS]; clear hS
  go_enter Tryz.func18, Tryz.ntmps18
  go_wp2
  refine bodyPost_ret (res1 rfl _ _ _ w.heap.size _ rfl (by simp (maxDischargeDepth := 20) [go_sem])) rfl ⟨rfl, ?_⟩
  repeat (first | exact Ext.refl _ | apply Ext.alloc | (refine Ext.setCell ?_ (by simp) _))
end

section
set_option linter.unusedVariables false
open Go.RowKit
set_option maxRecDepth 100000
set_option maxHeartbeats 4000000
set_option linter.unusedSimpArgs false

/-- v owns, from block base on, the operands l. -/
def Args (w : World) (base : Nat) (v : Value) (l : List AR) : Prop := w.ownsRow base 41 8 v l.length (l.flatMap AR.cells)
theorem Args.ext {w w' : World} {base : Nat} {v : Value} {l : List AR} (h : Args w base v l) (hx : Ext w w') : Args w' base v l := by
  refine World.ownsRow.kept h (row := none) ⟨hx.os, hx.tape, hx.output, hx.size, fun i hi _ => Below.block hx i hi⟩ ?_
  cases v.ownBlock <;> simp
theorem Args.mono {w : World} {base base' : Nat} {v : Value} {l : List AR} (h : Args w base v l) (hb : base' ≤ base) : Args w base' v l := by
  obtain ⟨h1, h2⟩ := h
  refine ⟨h1, ?_⟩
  rcases h2 with h2 | ⟨g, cap, cur, hv, hg, r⟩
  · exact .inl h2
  · exact .inr ⟨g, cap, cur, hv, Nat.le_trans hb hg, r⟩
theorem Args.nil (w : World) (base : Nat) : Args w base (.slice none 0 0) [] := World.ownsRow_nil _ _ _ _
theorem Args.one (w : World) (base g : Nat) (hg : g = w.heap.size) (hb : base ≤ w.heap.size) (a : AR) (cs : Array Value) (hcs : cs.toList = a.cells) : Args (w.alloc (.cells cs 41)) base (.slice (some ⟨g, 0, none⟩) 1 1) [a] := by
  subst hg
  refine ⟨by simp [AR.cells], .inr ⟨_, 1, cs, rfl, hb, by simp [World.alloc, -World.alloc_eq], Nat.le_refl _, by simp [maxLen], ?_, ?_⟩⟩
  · rw [← Array.length_toList, hcs]; rfl
  · simp [hcs, AR.cells]
theorem Args.slice {w : World} {base : Nat} {v : Value} {l : List AR} (h : Args w base v l) : ∃ A c, v = .slice A l.length c := by
  rcases h.2 with ⟨rfl, hn⟩ | ⟨g, cap, cur, rfl, _⟩
  · exact ⟨none, 0, by rw [hn]⟩
  · exact ⟨_, cap, rfl⟩

theorem Args.setCell {w : World} {base : Nat} {v : Value} {l : List AR} (h : Args w base v l) (a : Addr) (u : Value) (hne : v.ownBlock ≠ some a.block) : Args (w.setCell a u) base v l := by
  refine World.ownsRow.kept h (row := some a.block) ⟨rfl, rfl, rfl, by simp, fun i _ hi => Below.heap_setCell _ _ _ _ (by intro e; exact hi (by rw [e]))⟩ (.inr hne)
theorem Args.drew {w : World} {base : Nat} {v : Value} {l : List AR} (h : Args w base v l) : Args w.drew base v l := h

def dbS (x : Int) : List AR := [numA false x]
theorem db_any (x : Int) (h0 : 0 ≤ x) (h1 : x ≤ 255) (w : World) : Calls Tryz.prog 71 #[.int .u8 x] w fun e w' => ∃ A c, e = .returned (.tuple #[.agg #[.string ⟨#[]⟩, .bool false, .string ⟨#[68, 66]⟩, .slice A 1 c], .int .i64 1, .int .i64 (-1)]) ∧ Args w' w.heap.size (.slice A 1 c) (dbS x) ∧ Ext w w' := by
  go_enter Tryz.func71, Tryz.ntmps71
  go_wp2_with (first
    | (go_at_call 18; refine (operand_any _ _ _).mono ?_; rw [show operandS ⟨#[110]⟩ x = numA false x from rfl]; rintro e w1 ⟨rfl, hx⟩; have hB := (Blk.new _ _ _).ext hx)
    | (go_at_call 17; refine (stmt_any _ _ _ _ _).mono ?_; rintro e w2 ⟨rfl, hx2⟩; have hB2 := (hB.alloc _).ext hx2; have k := hB2.cell; have f := hB2.frozen))
  have hlt := hB.lt
  refine ⟨rfl, _, res3 rfl _ _ _ w.heap.size _ rfl (by simp (maxDischargeDepth := 20) [go_sem, k]), some ⟨w1.heap.size, 0, none⟩, 1, rfl, ?_, ?_⟩
  · have h := (Args.one w1 w.heap.size _ rfl (by omega) (numA false x) #[.string (numA false x).word, .string ⟨#[]⟩, .bool false, .bool (numA false x).mem, .string (numA false x).op, .int .u16 (numA false x).n, .string (numA false x).name, .slice none 0 0] rfl).ext hx2
    have hne : ∀ j : Nat, (Value.slice (some ⟨w1.heap.size, 0, none⟩) 1 1).ownBlock ≠ some (⟨w.heap.size, j, none⟩ : Addr).block := by intro j; simp [Value.ownBlock]; omega
    exact (((h.setCell _ _ (hne _)).setCell _ _ (hne _)).setCell _ _ (hne _)).setCell _ _ (hne _)
  · with_reducible repeat (first | exact Ext.refl _ | apply Ext.alloc | (refine Ext.setCell ?_ (by simp) _) | (refine Ext.trans ?_ hx2) | (refine Ext.trans ?_ hx))
end

section
set_option linter.unusedVariables false
open Go.RowKit
set_option maxRecDepth 100000
set_option maxHeartbeats 4000000
set_option linter.unusedSimpArgs false

theorem Tryz.info41 : (Tryz.prog.info? 41).map (fun i => (i.zero, i.size, i.bytes)) = some (some (.agg #[.string ⟨#[]⟩, .string ⟨#[]⟩, .bool false, .bool false, .string ⟨#[]⟩, .int .u16 0, .string ⟨#[]⟩, .slice none 0 0]), 8, 104) := by kernel_rfl

theorem Blk.grown {w w' : World} {g : Nat} {cs : Array Value} {row : Option Nat} (h : Blk w g cs) (hg : w.grownBy w' row) (hne : some g ≠ row) : Blk w' g cs := by
  have hlt := h.lt
  obtain ⟨t, h'⟩ := h
  exact ⟨t, by rw [hg.block g hlt hne]; exact h'⟩

theorem ext_grown {a w w' : World} {row : Option Nat} (h : Ext a w) (hg : w.grownBy w' row) (hr : ∀ k, row = some k → a.heap.size ≤ k) : Ext a w' := Below.grown h hg h.size hr

theorem AR.cells_len (l : List AR) : (l.flatMap AR.cells).length = l.length * 8 := by
  induction l with
  | nil => rfl
  | cons a l ih => rw [List.flatMap_cons, List.length_append, ih]; simp [AR.cells]; omega

theorem Args.snoc {w : World} {base gg k cap : Nat} {l : List AR} {x : AR} (h : w.ownsRow base 41 8 (.slice (some ⟨gg, 0, none⟩) (k + 1) cap) (k + 1) (l.flatMap AR.cells ++ [.string x.word, .string ⟨#[]⟩, .bool false, .bool x.mem, .string x.op, .int .u16 x.n, .string x.name, .slice none 0 0])) (hl : l.length = k) : Args w base (.slice (some ⟨gg, 0, none⟩) (k + 1) cap) (l ++ [x]) := by
  subst hl
  unfold Args
  rw [List.flatMap_append]
  simpa [AR.cells] using h

theorem Args.own {w : World} {base n : Nat} {v : Value} {l : List AR} (h : Args w base v l) (hn : l.length = n) : w.ownsRow base 41 8 v n (l.flatMap AR.cells) := hn ▸ h

theorem getD_lt4 {l : List ByteArray} {L k : Nat} (h : l.length = L) (hk : k < L) : l[k]? = some (l.getD k ⟨#[]⟩) := by
  subst h; simp [List.getElem?_eq_getElem hk]

/-- It answers a statement, its size, and where it goes. -/
def RPiece (w : World) (op : ByteArray) (l : List AR) (size tgt : Int) : Ending → World → Prop := fun e w' =>
  ∃ A c, e = .returned (.tuple #[.agg #[.string ⟨#[]⟩, .bool false, .string op, .slice A l.length c], .int .i64 size, .int .i64 tgt]) ∧ Args w' w.heap.size (.slice A l.length c) l ∧ Ext w w'

theorem RPiece.mk {w w' : World} {op : ByteArray} {l : List AR} {size tgt tgt' : Int} {A : Option Addr} {k c : Nat} (hl : l.length = k) (hA : Args w' w.heap.size (.slice A k c) l) (hx : Ext w w') (ht : tgt = tgt') :
    RPiece w op l size tgt (.returned (.tuple #[.agg #[.string ⟨#[]⟩, .bool false, .string op, .slice A k c], .int .i64 size, .int .i64 tgt'])) w' := by
  subst hl; subst ht; exact ⟨A, c, rfl, hA, hx⟩

theorem first80_0 (b : List Int) (v : Value) (w : World) (hb : Byts w v b) (hp : 0 < b.length) (o n size : Int) (hr : readS b = (o, n, size, 0)) (ho : 0 ≤ o ∧ o ≤ 255) (hn : 0 ≤ n ∧ n ≤ 65535) (hrst : (bits .and .u8 o 199 == 199) = false)
    (name : ByteArray) (hnm : nameOf (wordsS o) = name) (args : List ByteArray) (harg : (wordsS o).tail = args) (l : List AR) (hl : args.map (operandS · n) = l) (hlen4 : l.length = args.length) :
    Calls Tryz.prog 40 #[.int .i64 0, v] w (RPiece w name l size (if jumpsB o = true then n else -1)) := by
  have HNM := Lib.hid hnm; have HARG := Lib.hid harg; have HLL := Lib.hid hl; have HL44 := Lib.hid hlen4
  clear hnm harg hl hlen4
  have HR := Lib.hid hr
  clear hr
  have HB := Lib.hid hb
  obtain ⟨i0, hi0, hz0, hz1, hz2⟩ := info_parts Tryz.info41
  obtain ⟨A, c, rfl, _⟩ := hb
  have hb7 := band7 (o / 8) (by omega) (by omega)
  go_enter Tryz.func40, Tryz.ntmps40
  go_wp2_with (first
    | (go_at_call 75; refine (read_any b _ _ (HB.out.ext (by with_reducible exact (Ext.refl _).alloc _))).mono ?_; rw [HR.out]; rintro e w1 ⟨rfl, hx1⟩; have hB1 := (Blk.new _ _ _).ext hx1)
    | (go_at_call 76; refine (jumps_any _ ho.1 (by omega) _).mono ?_; rintro e w2 ⟨rfl, hx2⟩; have hB2 := (Blk.new _ _ _).ext hx2; have hB1b := (hB1.alloc _).ext hx2; have k2 := hB2.cell; have lt1 := hB1.lt))
  all_goals
    go_region_held3 (fun W => W.cell? ⟨w1.heap.size, 0, none⟩ = some (.int .u8 o)) (first | go_keep | (exact (hxa.cell ‹_›)))
      (first
       | (go_at_call 77; refine (name_any _ ho.1 (by omega) _).mono ?_; rw [HNM.out]; rintro e w3 ⟨rfl, hxa⟩; have hx3 := hxa)
       | (go_at_call 78; refine (args_any _ ho.1 (by omega) _).mono ?_; rw [HARG.out]; rintro e w4 ⟨v4, rfl, hs4, hxa⟩; have hx4 := hxa))
  all_goals
    have hB3 := (hB2.drew.ext hx3).ext hx4
    have hB0 := (hB1b.drew.ext hx3).ext hx4
    have hxw : Ext w w4 := (((((Ext.refl w).alloc _).trans hx1).alloc _).trans hx2).drew.trans (hx3.trans hx4)
    have k3 := hB3.cell
    clear hB1 hB1b hB2 k2 hx1 hx2 hx3 hx4 hxa
    obtain ⟨A4, c4, rfl, hc4, _, h4⟩ := hs4.open
    clear hs4
    generalize hL4 : args.length = L4 at *
    have HL4 := Lib.hid hL4; clear hL4
    have HH4 := Lib.hid h4; clear h4
    go_wp2_with (go_at_call 17; refine (stmt_any _ _ _ _ _).mono ?_; rintro e w5 ⟨rfl, hx5⟩)
    have lt5 := hx5.size
    have lt4 := hB3.lt
    have lt0 := hB0.lt
    have E0 : Ext w4 (w5.alloc (.cells #[.string ⟨#[]⟩, .bool false, .string name, .slice none 0 0] 31)) := hx5.alloc _
    have B5 := Blk.new w5 #[.string ⟨#[]⟩, .bool false, .string name, .slice none 0 0] 31
    have A5 := Args.nil (w5.alloc (.cells #[.string ⟨#[]⟩, .bool false, .string name, .slice none 0 0] 31)) (w5.heap.size + 1)
    go_loopw [74] (fun i wr => ∃ (k : Nat) (va : Value), k ≤ L4 ∧ i = .int .i64 k ∧ Ext w4 wr ∧ w5.heap.size < wr.heap.size ∧ Blk wr w5.heap.size #[.string ⟨#[]⟩, .bool false, .string name, va] ∧ Args wr (w5.heap.size + 1) va ((args.take k).map (operandS · n))) (fun i _ => L4 - (intOf i).toNat)
    case atStart => exact ⟨0, _, Nat.zero_le _, rfl, E0, by simp, B5, A5⟩
    case round =>
      obtain ⟨k, va, hk, rfl, E, hsz, B, HA⟩ := hrel
      obtain ⟨Av, cv, rfl⟩ := HA.slice
      have hlen : ((args.take k).map (operandS · n)).length = k := by simp [HL4.out, hk]
      rw [hlen] at B HA
      have HLEN := Lib.hid hlen; clear hlen
      have k5 := B.cell 3
      have kn := (hB3.ext E).cell 1
      have ko := (hB3.ext E).cell 0
      have f5 := B.frozen
      by_cases hlt : k < L4
      · obtain ⟨b4, o4, rfl, hlt4, hc4'⟩ := HH4.out (by omega)
        have ka := E.cell (hc4' k hlt)
        generalize hka : args.getD k ⟨#[]⟩ = a at *
        have HKA := Lib.hid hka; clear hka
        clear hc4' B5 A5 E0
        go_wp2
        have hN : ∀ g : Nat, g < w5.heap.size + 1 → some g ≠ (Value.slice Av k cv).ownBlock := fun g hg e => by have := (World.ownsRow.lt HA) g e.symm; omega
        have HN := Lib.hid hN; clear hN
        have hsz6 : w1.heap.size < wr.heap.size := by have := E.size; omega
        generalize hx : operandS a n = x
        have HX := Lib.hid hx; clear hx
        go_region_law (first
          | (refine step_append_lies _ (by rfl) _ _ _ (by rfl) (w5.heap.size + 1) 41 i0 _ 8 104 Tryz.underlying29 hi0 hz0 hz1 hz2 rfl (by omega) (.slice Av k cv) k _ (by rfl) ((Args.own (Args.ext (Args.drew HA) hx6) HLEN.out).alloc _) ⟨w6.heap.size, 0, none⟩ 1 1 [.string x.word, .string ⟨#[]⟩, .bool false, .bool x.mem, .string x.op, .int .u16 x.n, .string x.name, .slice none 0 0] (by rfl) (by rfl) (World.news_of_block (cs := #[.string x.word, .string ⟨#[]⟩, .bool false, .bool x.mem, .string x.op, .int .u16 x.n, .string x.name, .slice none 0 0]) (t := 41) (fr := (0, 0)) (heap_alloc_new w6 _)) (by simp [Value.oneCell']) (by omega) (by unfold maxLen; omega) (by omega) (by simp; omega) (w6.heap.size + 1) (by simp) ?_; intro gg cap w7 hown7 hgrow hat hlt7; have B7 := ((B.drew.ext hx6).alloc _).grown hgrow (HN.out _ (by omega)); have f7 := B7.frozen; have k7 := B7.cell 3; have HG := Lib.hid hgrow; have HAT := Lib.hid hat; have HO := Lib.hid hown7; clear hgrow hat hown7)
          | (go_simp; go_at_call 18; refine (operand_any _ _ _).mono ?_; rw [HX.out]; rintro e w6 ⟨rfl, hxa⟩; have hx6 := hxa; have sz6 : wr.heap.size ≤ w6.heap.size := hx6.size; have k6 := hx6.cell (p := ⟨w5.heap.size, 3, none⟩) k5; have l6 : w5.heap.size < w6.heap.size := Nat.lt_of_lt_of_le hsz sz6; have kn6 := hx6.cell (p := ⟨w1.heap.size, 1, none⟩) kn))
        all_goals
          go_wp2
          go_roundw
          case rel =>
            have hx7 : Ext w4 w7 := ext_grown ((E.drew.trans hx6).alloc _) HG.out (by intro g hg; have := (World.ownsRow.lt HA) g hg; omega)
            have hgg : w5.heap.size + 1 ≤ gg := by
              rcases HAT.out with h | h
              · exact ((World.ownsRow.lt HA) gg h).1
              · omega
            refine ⟨k + 1, .slice (some ⟨gg, 0, none⟩) (k + 1) cap, by omega, by go_num, ?_, ?_, ?_, ?_⟩
            · exact hx7.setCell (by simp; omega) _
            · simp; omega
            · exact B7.put 3 _
            · refine Args.setCell ?_ _ _ (by simp [Value.ownBlock]; omega)
              have ht : args.take (k + 1) = args.take k ++ [a] := by
                have h1 := HL4.out
                rw [List.take_add_one, ← HKA.out, getD_lt4 h1 hlt]; rfl
              rw [ht, List.map_append]
              simp only [List.map_cons, List.map_nil, HX.out]
              exact Args.snoc HO.out HLEN.out
          case measure => simp [intOf]; omega
      · obtain rfl : k = L4 := by omega
        have hB0' := hB0.ext E
        have k0 := hB0'.cell
        have f0 := hB0'.frozen
        have kk5 := B.cell
        clear k5 B5 A5 E0
        go_wp2
        have hne : ∀ j : Nat, (Value.slice Av k cv).ownBlock ≠ some (⟨w.heap.size, j, none⟩ : Addr).block := by
          intro j e
          have h := (World.ownsRow.lt HA) _ e
          have h1 : w5.heap.size + 1 ≤ w.heap.size := h.1
          omega
        have hlist : (args.take k).map (operandS · n) = args.map (operandS · n) := by rw [List.take_of_length_le (by have := HL4.out; omega)]
        rw [hlist, HLL.out] at HA
        have hlk : l.length = k := HL44.out
        refine bodyPost_ret (res3 rfl _ _ _ w.heap.size (.agg #[.string ⟨#[]⟩, .bool false, .string name, .slice Av k cv]) rfl (by simp (maxDischargeDepth := 20) [go_sem, k0, kk5])) rfl (RPiece.mk hlk ?_ ?_ ?_)
        · exact ((((Args.mono HA (by omega)).setCell _ _ (hne _)).setCell _ _ (hne _)).setCell _ _ (hne _)).setCell _ _ (hne _)
        · exact ((((hxw.trans E).setCell (by simp) _).setCell (by simp) _).setCell (by simp) _).setCell (by simp) _
        · simp [*]
end
end Go.Proofs.YtnklmehphmidhaaGreatDoor
