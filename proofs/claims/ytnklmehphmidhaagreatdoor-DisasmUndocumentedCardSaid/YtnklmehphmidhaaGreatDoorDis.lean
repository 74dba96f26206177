/- disasm: numbers, statements, operands. -/
import Derived.Test.YtnklmehphmidhaaGreatDoorBase3
namespace Go.Proofs.YtnklmehphmidhaaGreatDoor
open Go.RowKit
set_option maxRecDepth 100000
set_option maxHeartbeats 1000000
set_option linter.unusedSimpArgs false

theorem number_any (n : Int) (w : World) : Calls Tryz.prog 41 #[.int .u16 n] w fun e w' => e = .returned (.agg #[.string ⟨#[35]⟩, .int .u16 n, .string ⟨#[]⟩, .slice none 0 0]) ∧ Ext w w' := by
  go_enter Tryz.func41, Tryz.ntmps41
  go_wp2
  refine bodyPost_ret (res1 rfl _ _ _ w.heap.size _ rfl (load39 (Blk.new _ _ _))) rfl ⟨rfl, ?_⟩
  repeat (first | exact Ext.refl _ | apply Ext.alloc | (refine Ext.setCell ?_ (by simp) _))

theorem stmt_any (op : ByteArray) (A : Option Addr) (n c : Nat) (w : World) : Calls Tryz.prog 17 #[.string op, .slice A n c] w fun e w' => e = .returned (.agg #[.string ⟨#[]⟩, .bool false, .string op, .slice A n c]) ∧ Ext w w' := by
  go_enter Tryz.func17, Tryz.ntmps17
  go_wp2
  refine bodyPost_ret (res1 rfl _ _ _ w.heap.size _ rfl (load31 (Blk.new _ _ _))) rfl ⟨rfl, ?_⟩
  repeat (first | exact Ext.refl _ | apply Ext.alloc | (refine Ext.setCell ?_ (by simp) _))

/-- An operand: a word; or (in parentheses: mem) an expression of an operator, a number, a name. -/
structure AR where
  word : ByteArray
  mem : Bool
  op : ByteArray
  n : Int
  name : ByteArray
deriving DecidableEq

def numA (mem : Bool) (n : Int) : AR := ⟨⟨#[]⟩, mem, ⟨#[35]⟩, n, ⟨#[]⟩⟩
def operandS (s : ByteArray) (n : Int) : AR :=
  if isS s [100, 56] = true ∨ isS s [100, 49, 54] = true ∨ isS s [110] = true ∨ isS s [110, 110] = true then numA false n
  else if isS s [40, 110, 41] = true ∨ isS s [40, 110, 110, 41] = true then numA true n
  else ⟨s, false, ⟨#[]⟩, 0, ⟨#[]⟩⟩

/-- An operand's cells. -/
def AR.cells (a : AR) : List Value := [.string a.word, .string ⟨#[]⟩, .bool false, .bool a.mem, .string a.op, .int .u16 a.n, .string a.name, .slice none 0 0]

theorem operand_any (s : ByteArray) (n : Int) (w : World) : Calls Tryz.prog 18 #[.string s, .int .u16 n] w fun e w' => e = .returned (.agg #[.string (operandS s n).word, .string ⟨#[]⟩, .bool false, .bool (operandS s n).mem, .string (operandS s n).op, .int .u16 (operandS s n).n, .string (operandS s n).name, .slice none 0 0]) ∧ Ext w w' := by
  rcases Bool.eq_false_or_eq_true (s.toList == [100, 56]) with t1 | t1
  · have hS : operandS s n = numA false n := by simp only [operandS, isS_eq]; simp [*]
    rw [hS]; clear hS
    go_enter Tryz.func18, Tryz.ntmps18
    go_wp2_with (go_at_call 41; refine (number_any _ _).mono ?_; rintro e w1 ⟨rfl, hx⟩; have hB := (Blk.new _ _ _).ext hx; have k := hB.cell; have f := hB.frozen)
    refine bodyPost_ret (res1 rfl _ _ _ w.heap.size _ rfl (by simp (maxDischargeDepth := 20) [go_sem, k, numA])) rfl ⟨rfl, ?_⟩
    with_reducible repeat (first | exact Ext.refl _ | apply Ext.alloc | (refine Ext.setCell ?_ (by simp) _) | (refine Ext.trans ?_ hx))
  rcases Bool.eq_false_or_eq_true (s.toList == [100, 49, 54]) with t2 | t2
  · have hS : operandS s n = numA false n := by simp only [operandS, isS_eq]; simp [*]
    rw [hS]; clear hS
    go_enter Tryz.func18, Tryz.ntmps18
    go_wp2_with (go_at_call 41; refine (number_any _ _).mono ?_; rintro e w1 ⟨rfl, hx⟩; have hB := (Blk.new _ _ _).ext hx; have k := hB.cell; have f := hB.frozen)
    refine bodyPost_ret (res1 rfl _ _ _ w.heap.size _ rfl (by simp (maxDischargeDepth := 20) [go_sem, k, numA])) rfl ⟨rfl, ?_⟩
    with_reducible repeat (first | exact Ext.refl _ | apply Ext.alloc | (refine Ext.setCell ?_ (by simp) _) | (refine Ext.trans ?_ hx))
  rcases Bool.eq_false_or_eq_true (s.toList == [110]) with t3 | t3
  · have hS : operandS s n = numA false n := by simp only [operandS, isS_eq]; simp [*]
    rw [hS]; clear hS
    go_enter Tryz.func18, Tryz.ntmps18
    go_wp2_with (go_at_call 41; refine (number_any _ _).mono ?_; rintro e w1 ⟨rfl, hx⟩; have hB := (Blk.new _ _ _).ext hx; have k := hB.cell; have f := hB.frozen)
    refine bodyPost_ret (res1 rfl _ _ _ w.heap.size _ rfl (by simp (maxDischargeDepth := 20) [go_sem, k, numA])) rfl ⟨rfl, ?_⟩
    with_reducible repeat (first | exact Ext.refl _ | apply Ext.alloc | (refine Ext.setCell ?_ (by simp) _) | (refine Ext.trans ?_ hx))
  rcases Bool.eq_false_or_eq_true (s.toList == [110, 110]) with t4 | t4
  · have hS : operandS s n = numA false n := by simp only [operandS, isS_eq]; simp [*]
    rw [hS]; clear hS
    go_enter Tryz.func18, Tryz.ntmps18
    go_wp2_with (go_at_call 41; refine (number_any _ _).mono ?_; rintro e w1 ⟨rfl, hx⟩; have hB := (Blk.new _ _ _).ext hx; have k := hB.cell; have f := hB.frozen)
    refine bodyPost_ret (res1 rfl _ _ _ w.heap.size _ rfl (by simp (maxDischargeDepth := 20) [go_sem, k, numA])) rfl ⟨rfl, ?_⟩
    with_reducible repeat (first | exact Ext.refl _ | apply Ext.alloc | (refine Ext.setCell ?_ (by simp) _) | (refine Ext.trans ?_ hx))
  rcases Bool.eq_false_or_eq_true (s.toList == [40, 110, 41]) with t5 | t5
  · have hS : operandS s n = numA true n := by simp only [operandS, isS_eq]; simp [*]
    rw [hS]; clear hS
    go_enter Tryz.func18, Tryz.ntmps18
    go_wp2_with (go_at_call 41; refine (number_any _ _).mono ?_; rintro e w1 ⟨rfl, hx⟩; have hB := (Blk.new _ _ _).ext hx; have k := hB.cell; have f := hB.frozen)
    refine bodyPost_ret (res1 rfl _ _ _ w.heap.size _ rfl (by simp (maxDischargeDepth := 20) [go_sem, k, numA])) rfl ⟨rfl, ?_⟩
    with_reducible repeat (first | exact Ext.refl _ | apply Ext.alloc | (refine Ext.setCell ?_ (by simp) _) | (refine Ext.trans ?_ hx))
  rcases Bool.eq_false_or_eq_true (s.toList == [40, 110, 110, 41]) with t6 | t6
  · have hS : operandS s n = numA true n := by simp only [operandS, isS_eq]; simp [*]
    rw [hS]; clear hS
    go_enter Tryz.func18, Tryz.ntmps18
    go_wp2_with (go_at_call 41; refine (number_any _ _).mono ?_; rintro e w1 ⟨rfl, hx⟩; have hB := (Blk.new _ _ _).ext hx; have k := hB.cell; have f := hB.frozen)
    refine bodyPost_ret (res1 rfl _ _ _ w.heap.size _ rfl (by simp (maxDischargeDepth := 20) [go_sem, k, numA])) rfl ⟨rfl, ?_⟩
    with_reducible repeat (first | exact Ext.refl _ | apply Ext.alloc | (refine Ext.setCell ?_ (by simp) _) | (refine Ext.trans ?_ hx))
  have hS : operandS s n = ⟨s, false, ⟨#[]⟩, 0, ⟨#[]⟩⟩ := by simp only [operandS, isS_eq]; simp [*]
  rw [hS]; clear hS
  go_enter Tryz.func18, Tryz.ntmps18
  go_wp2
  refine bodyPost_ret (res1 rfl _ _ _ w.heap.size _ rfl (by simp (maxDischargeDepth := 20) [go_sem])) rfl ⟨rfl, ?_⟩
  repeat (first | exact Ext.refl _ | apply Ext.alloc | (refine Ext.setCell ?_ (by simp) _))
end Go.Proofs.YtnklmehphmidhaaGreatDoor
