/- isa86: heads of one operand. -/
import Derived.Test.YtnklmehphmidhaaGreatDoorIze
namespace Go.Proofs.YtnklmehphmidhaaGreatDoor
open Go.RowKit
set_option maxRecDepth 100000
set_option maxHeartbeats 4000000
set_option linter.unusedSimpArgs false
set_option linter.unusedVariables false

def one1S (op d : Int) : List Int × Int :=
  if op ≤ 11 ∧ d = 17 then ([254, memS (op - 10) 7], 0)
  else if op ≤ 11 ∧ wideS d = 8 then ([254, rmS (op - 10) (numS d)], 0)
  else if op ≤ 11 ∧ wideS d = 16 then ([bits .or .u8 (bits .or .u8 64 ((op - 10) * 8)) (numS d)], 0)
  else if op ≤ 15 ∧ wideS d ≠ 0 then ([bits .or .u8 208 (wideS d / 16), rmS (op - 12) (numS d)], 0)
  else if op = 16 ∧ wideS d = 8 then ([246, rmS 2 (numS d)], 0)
  else if 18 ≤ op ∧ wideS d = 16 then ([bits .or .u8 (bits .or .u8 80 ((op - 18) * 8)) (numS d)], 0)
  else ([], 0)

def M1 (op d : Int) : Prop := (10 ≤ op → op ≤ 11 → 0 ≤ memS (op - 10) 7 ∧ memS (op - 10) 7 ≤ 255) ∧ (10 ≤ op → op ≤ 11 → 0 ≤ rmS (op - 10) (numS d) ∧ rmS (op - 10) (numS d) ≤ 255) ∧ (10 ≤ op → op ≤ 11 → 0 ≤ bits .or .u8 (bits .or .u8 64 ((op - 10) * 8)) (numS d) ∧ bits .or .u8 (bits .or .u8 64 ((op - 10) * 8)) (numS d) ≤ 255) ∧
  (12 ≤ op → op ≤ 15 → 0 ≤ rmS (op - 12) (numS d) ∧ rmS (op - 12) (numS d) ≤ 255) ∧ (0 ≤ rmS 2 (numS d) ∧ rmS 2 (numS d) ≤ 255) ∧ (18 ≤ op → op ≤ 19 → 0 ≤ bits .or .u8 (bits .or .u8 80 ((op - 18) * 8)) (numS d) ∧ bits .or .u8 (bits .or .u8 80 ((op - 18) * 8)) (numS d) ≤ 255)
theorem M1.of (op d : Int) : M1 op d := by
  have hnd := numS_range d
  refine ⟨fun h0 h1 => memS_range _ _ (by omega) (by omega) (by omega) (by omega), fun h0 h1 => rmS_range _ _ (by omega) (by omega) hnd.1 hnd.2, fun h0 h1 => or_range _ _ (or_range _ _ (by omega) (by omega) (by omega)) hnd.1 (by omega), fun h0 h1 => rmS_range _ _ (by omega) (by omega) hnd.1 hnd.2, rmS_range _ _ (by omega) (by omega) hnd.1 hnd.2, fun h0 h1 => or_range _ _ (or_range _ _ (by omega) (by omega) (by omega)) hnd.1 (by omega)⟩

theorem one_A_8 (op d : Int) (w : World) (o1 : 10 ≤ op ∧ op ≤ 11) (hwd : wideS d = 8) (d1 : 1 ≤ d) (d2 : d ≤ 8) : Calls Tryz.prog 158 #[.int .i64 op, .int .i64 d] w (RHead w (one1S op d)) := by
  have hnd := numS_range d
  have MM := Lib.hid (M1.of op d)
  unfold M1 at MM
  have HWD := Lib.hid hwd
  clear hwd
  obtain ⟨o1, o2⟩ := o1
  have e9 : (d == 9) = false := by simp; omega
  have e17 : (d == 17) = false := by simp; omega
  have e18 : (d == 18) = false := by simp; omega
  have e19 : (d == 19) = false := by simp; omega
  have e20 : (d == 20) = false := by simp; omega
  go_enter Tryz.func158, Tryz.ntmps158
  go_wp2_with (first
    | (go_at_call 191; ((with_reducible refine (wide_any _ _).mono ?_); (first | rw [HWD.out] | rw [show wideS 17 = 0 from rfl]); rintro e w' ⟨rfl, rfl⟩))
    | (go_at_call 193; ((with_reducible refine (num_any _ (by omega) (by omega) _).mono ?_); rintro e w' ⟨rfl, rfl⟩))
    | (go_at_call 195; ((with_reducible refine (mem_any _ _ (by omega) (by omega) _).mono ?_); rintro e w' ⟨rfl, rfl⟩))
    | (go_at_call 192; ((with_reducible refine (rm_any _ _ (by omega) (by omega) _).mono ?_); rintro e w' ⟨rfl, rfl⟩))
    | (go_at_call 159; ((with_reducible refine (of159_any _ _ _ _ _).mono ?_); rintro e w1 ⟨rfl, hx1⟩; have B0 := ((Blk.new w #[.slice none 0 0, .int .i64 0] 137).alloc _).ext hx1; have k0 := B0.cell; have f0 := B0.frozen)))
  all_goals first
    | (refine bodyPost_ret (res1 rfl _ _ _ w.heap.size _ rfl (load137 ((B0.put 0 _).put 1 _))) rfl (head_end2 (w.alloc (.cells #[.slice none 0 0, .int .i64 0] 137)) _ _ ?_ ?_ ?_ ((Ext.refl w).alloc _) (by simp) (by simp) hx1) <;> clear hx1 B0 k0 f0
       · simp only [beq_iff_eq, beq_eq_false_iff_ne, bne_iff_ne, bne_eq_false_iff_eq] at *
         subst_vars
         unfold one1S
         rw [HWD.out]
         repeat (first | rw [if_pos (by omega)] | rw [if_neg (by omega)])
         all_goals rfl
       · have M := MM.out
         subst_vars
         first | omega | decide
       · have M := MM.out
         subst_vars
         first | omega | decide)
    | (refine bodyPost_ret (res1 rfl _ _ _ w.heap.size _ rfl (load137 ((B0.put 0 _).put 1 _))) rfl (head_end1 (w.alloc (.cells #[.slice none 0 0, .int .i64 0] 137)) _ _ ?_ ?_ ((Ext.refl w).alloc _) (by simp) (by simp) hx1) <;> clear hx1 B0 k0 f0
       · simp only [beq_iff_eq, beq_eq_false_iff_ne, bne_iff_ne, bne_eq_false_iff_eq] at *
         subst_vars
         unfold one1S
         rw [HWD.out]
         repeat (first | rw [if_pos (by omega)] | rw [if_neg (by omega)])
         all_goals rfl
       · have M := MM.out
         subst_vars
         omega)
    | (refine bodyPost_ret (res1 rfl _ _ _ w.heap.size _ rfl (load137 (c0 := .slice none 0 0) (c1 := .int .i64 0) (Blk.new w _ 137))) rfl (RHead.mk (l := []) (n := 0) (t := 0) ?_ rfl (Byts.nil _) ((Ext.refl _).alloc _))
       simp only [beq_iff_eq, beq_eq_false_iff_ne, bne_iff_ne, bne_eq_false_iff_eq] at *
       subst_vars
       unfold one1S
       rw [HWD.out]
       repeat (first | rw [if_pos (by omega)] | rw [if_neg (by omega)])
       all_goals rfl)
theorem one_A_16 (op d : Int) (w : World) (o1 : 10 ≤ op ∧ op ≤ 11) (hwd : wideS d = 16) (d1 : 9 ≤ d) (d2 : d ≤ 16) : Calls Tryz.prog 158 #[.int .i64 op, .int .i64 d] w (RHead w (one1S op d)) := by
  have hnd := numS_range d
  have MM := Lib.hid (M1.of op d)
  unfold M1 at MM
  have HWD := Lib.hid hwd
  clear hwd
  obtain ⟨o1, o2⟩ := o1
  have e1 : (d == 1) = false := by simp; omega
  have e17 : (d == 17) = false := by simp; omega
  have e18 : (d == 18) = false := by simp; omega
  have e19 : (d == 19) = false := by simp; omega
  have e20 : (d == 20) = false := by simp; omega
  go_enter Tryz.func158, Tryz.ntmps158
  go_wp2_with (first
    | (go_at_call 191; ((with_reducible refine (wide_any _ _).mono ?_); (first | rw [HWD.out] | rw [show wideS 17 = 0 from rfl]); rintro e w' ⟨rfl, rfl⟩))
    | (go_at_call 193; ((with_reducible refine (num_any _ (by omega) (by omega) _).mono ?_); rintro e w' ⟨rfl, rfl⟩))
    | (go_at_call 195; ((with_reducible refine (mem_any _ _ (by omega) (by omega) _).mono ?_); rintro e w' ⟨rfl, rfl⟩))
    | (go_at_call 192; ((with_reducible refine (rm_any _ _ (by omega) (by omega) _).mono ?_); rintro e w' ⟨rfl, rfl⟩))
    | (go_at_call 159; ((with_reducible refine (of159_any _ _ _ _ _).mono ?_); rintro e w1 ⟨rfl, hx1⟩; have B0 := ((Blk.new w #[.slice none 0 0, .int .i64 0] 137).alloc _).ext hx1; have k0 := B0.cell; have f0 := B0.frozen)))
  all_goals first
    | (refine bodyPost_ret (res1 rfl _ _ _ w.heap.size _ rfl (load137 ((B0.put 0 _).put 1 _))) rfl (head_end2 (w.alloc (.cells #[.slice none 0 0, .int .i64 0] 137)) _ _ ?_ ?_ ?_ ((Ext.refl w).alloc _) (by simp) (by simp) hx1) <;> clear hx1 B0 k0 f0
       · simp only [beq_iff_eq, beq_eq_false_iff_ne, bne_iff_ne, bne_eq_false_iff_eq] at *
         subst_vars
         unfold one1S
         rw [HWD.out]
         repeat (first | rw [if_pos (by omega)] | rw [if_neg (by omega)])
         all_goals rfl
       · have M := MM.out
         subst_vars
         first | omega | decide
       · have M := MM.out
         subst_vars
         first | omega | decide)
    | (refine bodyPost_ret (res1 rfl _ _ _ w.heap.size _ rfl (load137 ((B0.put 0 _).put 1 _))) rfl (head_end1 (w.alloc (.cells #[.slice none 0 0, .int .i64 0] 137)) _ _ ?_ ?_ ((Ext.refl w).alloc _) (by simp) (by simp) hx1) <;> clear hx1 B0 k0 f0
       · simp only [beq_iff_eq, beq_eq_false_iff_ne, bne_iff_ne, bne_eq_false_iff_eq] at *
         subst_vars
         unfold one1S
         rw [HWD.out]
         repeat (first | rw [if_pos (by omega)] | rw [if_neg (by omega)])
         all_goals rfl
       · have M := MM.out
         subst_vars
         omega)
    | (refine bodyPost_ret (res1 rfl _ _ _ w.heap.size _ rfl (load137 (c0 := .slice none 0 0) (c1 := .int .i64 0) (Blk.new w _ 137))) rfl (RHead.mk (l := []) (n := 0) (t := 0) ?_ rfl (Byts.nil _) ((Ext.refl _).alloc _))
       simp only [beq_iff_eq, beq_eq_false_iff_ne, bne_iff_ne, bne_eq_false_iff_eq] at *
       subst_vars
       unfold one1S
       rw [HWD.out]
       repeat (first | rw [if_pos (by omega)] | rw [if_neg (by omega)])
       all_goals rfl)
theorem one_A_0 (op d : Int) (w : World) (o1 : 10 ≤ op ∧ op ≤ 11) (hwd : wideS d = 0) (d1 : d < 1 ∨ 16 < d) : Calls Tryz.prog 158 #[.int .i64 op, .int .i64 d] w (RHead w (one1S op d)) := by
  have hnd := numS_range d
  have MM := Lib.hid (M1.of op d)
  unfold M1 at MM
  have HWD := Lib.hid hwd
  clear hwd
  obtain ⟨o1, o2⟩ := o1
  have e1 : (d == 1) = false := by simp; omega
  have e9 : (d == 9) = false := by simp; omega
  go_enter Tryz.func158, Tryz.ntmps158
  go_wp2_with (first
    | (go_at_call 191; ((with_reducible refine (wide_any _ _).mono ?_); (first | rw [HWD.out] | rw [show wideS 17 = 0 from rfl]); rintro e w' ⟨rfl, rfl⟩))
    | (go_at_call 193; ((with_reducible refine (num_any _ (by omega) (by omega) _).mono ?_); rintro e w' ⟨rfl, rfl⟩))
    | (go_at_call 195; ((with_reducible refine (mem_any _ _ (by omega) (by omega) _).mono ?_); rintro e w' ⟨rfl, rfl⟩))
    | (go_at_call 192; ((with_reducible refine (rm_any _ _ (by omega) (by omega) _).mono ?_); rintro e w' ⟨rfl, rfl⟩))
    | (go_at_call 159; ((with_reducible refine (of159_any _ _ _ _ _).mono ?_); rintro e w1 ⟨rfl, hx1⟩; have B0 := ((Blk.new w #[.slice none 0 0, .int .i64 0] 137).alloc _).ext hx1; have k0 := B0.cell; have f0 := B0.frozen)))
  all_goals first
    | (refine bodyPost_ret (res1 rfl _ _ _ w.heap.size _ rfl (load137 ((B0.put 0 _).put 1 _))) rfl (head_end2 (w.alloc (.cells #[.slice none 0 0, .int .i64 0] 137)) _ _ ?_ ?_ ?_ ((Ext.refl w).alloc _) (by simp) (by simp) hx1) <;> clear hx1 B0 k0 f0
       · simp only [beq_iff_eq, beq_eq_false_iff_ne, bne_iff_ne, bne_eq_false_iff_eq] at *
         subst_vars
         unfold one1S
         rw [HWD.out]
         repeat (first | rw [if_pos (by omega)] | rw [if_neg (by omega)])
         all_goals rfl
       · have M := MM.out
         subst_vars
         first | omega | decide
       · have M := MM.out
         subst_vars
         first | omega | decide)
    | (refine bodyPost_ret (res1 rfl _ _ _ w.heap.size _ rfl (load137 ((B0.put 0 _).put 1 _))) rfl (head_end1 (w.alloc (.cells #[.slice none 0 0, .int .i64 0] 137)) _ _ ?_ ?_ ((Ext.refl w).alloc _) (by simp) (by simp) hx1) <;> clear hx1 B0 k0 f0
       · simp only [beq_iff_eq, beq_eq_false_iff_ne, bne_iff_ne, bne_eq_false_iff_eq] at *
         subst_vars
         unfold one1S
         rw [HWD.out]
         repeat (first | rw [if_pos (by omega)] | rw [if_neg (by omega)])
         all_goals rfl
       · have M := MM.out
         subst_vars
         omega)
    | (refine bodyPost_ret (res1 rfl _ _ _ w.heap.size _ rfl (load137 (c0 := .slice none 0 0) (c1 := .int .i64 0) (Blk.new w _ 137))) rfl (RHead.mk (l := []) (n := 0) (t := 0) ?_ rfl (Byts.nil _) ((Ext.refl _).alloc _))
       simp only [beq_iff_eq, beq_eq_false_iff_ne, bne_iff_ne, bne_eq_false_iff_eq] at *
       subst_vars
       unfold one1S
       rw [HWD.out]
       repeat (first | rw [if_pos (by omega)] | rw [if_neg (by omega)])
       all_goals rfl)
theorem one_B_8 (op d : Int) (w : World) (o1 : 12 ≤ op ∧ op ≤ 15) (hwd : wideS d = 8) (d1 : 1 ≤ d) (d2 : d ≤ 8) : Calls Tryz.prog 158 #[.int .i64 op, .int .i64 d] w (RHead w (one1S op d)) := by
  have hnd := numS_range d
  have MM := Lib.hid (M1.of op d)
  unfold M1 at MM
  have HWD := Lib.hid hwd
  clear hwd
  obtain ⟨o1, o2⟩ := o1
  have e9 : (d == 9) = false := by simp; omega
  have e17 : (d == 17) = false := by simp; omega
  have e18 : (d == 18) = false := by simp; omega
  have e19 : (d == 19) = false := by simp; omega
  have e20 : (d == 20) = false := by simp; omega
  have hb : bits .and .u8 (op - 12) 7 = op - 12 := by rw [band7 _ (by omega) (by omega)]; omega
  go_enter Tryz.func158, Tryz.ntmps158
  go_wp2_with (first
    | (go_at_call 191; ((with_reducible refine (wide_any _ _).mono ?_); (first | rw [HWD.out] | rw [show wideS 17 = 0 from rfl]); rintro e w' ⟨rfl, rfl⟩))
    | (go_at_call 193; ((with_reducible refine (num_any _ (by omega) (by omega) _).mono ?_); rintro e w' ⟨rfl, rfl⟩))
    | (go_at_call 195; ((with_reducible refine (mem_any _ _ (by omega) (by omega) _).mono ?_); rintro e w' ⟨rfl, rfl⟩))
    | (go_at_call 192; ((with_reducible refine (rm_any _ _ (by omega) (by omega) _).mono ?_); rintro e w' ⟨rfl, rfl⟩))
    | (go_at_call 159; ((with_reducible refine (of159_any _ _ _ _ _).mono ?_); rintro e w1 ⟨rfl, hx1⟩; have B0 := ((Blk.new w #[.slice none 0 0, .int .i64 0] 137).alloc _).ext hx1; have k0 := B0.cell; have f0 := B0.frozen)))
  all_goals first
    | (refine bodyPost_ret (res1 rfl _ _ _ w.heap.size _ rfl (load137 ((B0.put 0 _).put 1 _))) rfl (head_end2 (w.alloc (.cells #[.slice none 0 0, .int .i64 0] 137)) _ _ ?_ ?_ ?_ ((Ext.refl w).alloc _) (by simp) (by simp) hx1) <;> clear hx1 B0 k0 f0
       · simp only [beq_iff_eq, beq_eq_false_iff_ne, bne_iff_ne, bne_eq_false_iff_eq] at *
         subst_vars
         unfold one1S
         rw [HWD.out]
         repeat (first | rw [if_pos (by omega)] | rw [if_neg (by omega)])
         all_goals rfl
       · have M := MM.out
         subst_vars
         first | omega | decide
       · have M := MM.out
         subst_vars
         first | omega | decide)
    | (refine bodyPost_ret (res1 rfl _ _ _ w.heap.size _ rfl (load137 ((B0.put 0 _).put 1 _))) rfl (head_end1 (w.alloc (.cells #[.slice none 0 0, .int .i64 0] 137)) _ _ ?_ ?_ ((Ext.refl w).alloc _) (by simp) (by simp) hx1) <;> clear hx1 B0 k0 f0
       · simp only [beq_iff_eq, beq_eq_false_iff_ne, bne_iff_ne, bne_eq_false_iff_eq] at *
         subst_vars
         unfold one1S
         rw [HWD.out]
         repeat (first | rw [if_pos (by omega)] | rw [if_neg (by omega)])
         all_goals rfl
       · have M := MM.out
         subst_vars
         omega)
    | (refine bodyPost_ret (res1 rfl _ _ _ w.heap.size _ rfl (load137 (c0 := .slice none 0 0) (c1 := .int .i64 0) (Blk.new w _ 137))) rfl (RHead.mk (l := []) (n := 0) (t := 0) ?_ rfl (Byts.nil _) ((Ext.refl _).alloc _))
       simp only [beq_iff_eq, beq_eq_false_iff_ne, bne_iff_ne, bne_eq_false_iff_eq] at *
       subst_vars
       unfold one1S
       rw [HWD.out]
       repeat (first | rw [if_pos (by omega)] | rw [if_neg (by omega)])
       all_goals rfl)
theorem one_B_16 (op d : Int) (w : World) (o1 : 12 ≤ op ∧ op ≤ 15) (hwd : wideS d = 16) (d1 : 9 ≤ d) (d2 : d ≤ 16) : Calls Tryz.prog 158 #[.int .i64 op, .int .i64 d] w (RHead w (one1S op d)) := by
  have hnd := numS_range d
  have MM := Lib.hid (M1.of op d)
  unfold M1 at MM
  have HWD := Lib.hid hwd
  clear hwd
  obtain ⟨o1, o2⟩ := o1
  have e1 : (d == 1) = false := by simp; omega
  have e17 : (d == 17) = false := by simp; omega
  have e18 : (d == 18) = false := by simp; omega
  have e19 : (d == 19) = false := by simp; omega
  have e20 : (d == 20) = false := by simp; omega
  have hb : bits .and .u8 (op - 12) 7 = op - 12 := by rw [band7 _ (by omega) (by omega)]; omega
  go_enter Tryz.func158, Tryz.ntmps158
  go_wp2_with (first
    | (go_at_call 191; ((with_reducible refine (wide_any _ _).mono ?_); (first | rw [HWD.out] | rw [show wideS 17 = 0 from rfl]); rintro e w' ⟨rfl, rfl⟩))
    | (go_at_call 193; ((with_reducible refine (num_any _ (by omega) (by omega) _).mono ?_); rintro e w' ⟨rfl, rfl⟩))
    | (go_at_call 195; ((with_reducible refine (mem_any _ _ (by omega) (by omega) _).mono ?_); rintro e w' ⟨rfl, rfl⟩))
    | (go_at_call 192; ((with_reducible refine (rm_any _ _ (by omega) (by omega) _).mono ?_); rintro e w' ⟨rfl, rfl⟩))
    | (go_at_call 159; ((with_reducible refine (of159_any _ _ _ _ _).mono ?_); rintro e w1 ⟨rfl, hx1⟩; have B0 := ((Blk.new w #[.slice none 0 0, .int .i64 0] 137).alloc _).ext hx1; have k0 := B0.cell; have f0 := B0.frozen)))
  all_goals first
    | (refine bodyPost_ret (res1 rfl _ _ _ w.heap.size _ rfl (load137 ((B0.put 0 _).put 1 _))) rfl (head_end2 (w.alloc (.cells #[.slice none 0 0, .int .i64 0] 137)) _ _ ?_ ?_ ?_ ((Ext.refl w).alloc _) (by simp) (by simp) hx1) <;> clear hx1 B0 k0 f0
       · simp only [beq_iff_eq, beq_eq_false_iff_ne, bne_iff_ne, bne_eq_false_iff_eq] at *
         subst_vars
         unfold one1S
         rw [HWD.out]
         repeat (first | rw [if_pos (by omega)] | rw [if_neg (by omega)])
         all_goals rfl
       · have M := MM.out
         subst_vars
         first | omega | decide
       · have M := MM.out
         subst_vars
         first | omega | decide)
    | (refine bodyPost_ret (res1 rfl _ _ _ w.heap.size _ rfl (load137 ((B0.put 0 _).put 1 _))) rfl (head_end1 (w.alloc (.cells #[.slice none 0 0, .int .i64 0] 137)) _ _ ?_ ?_ ((Ext.refl w).alloc _) (by simp) (by simp) hx1) <;> clear hx1 B0 k0 f0
       · simp only [beq_iff_eq, beq_eq_false_iff_ne, bne_iff_ne, bne_eq_false_iff_eq] at *
         subst_vars
         unfold one1S
         rw [HWD.out]
         repeat (first | rw [if_pos (by omega)] | rw [if_neg (by omega)])
         all_goals rfl
       · have M := MM.out
         subst_vars
         omega)
    | (refine bodyPost_ret (res1 rfl _ _ _ w.heap.size _ rfl (load137 (c0 := .slice none 0 0) (c1 := .int .i64 0) (Blk.new w _ 137))) rfl (RHead.mk (l := []) (n := 0) (t := 0) ?_ rfl (Byts.nil _) ((Ext.refl _).alloc _))
       simp only [beq_iff_eq, beq_eq_false_iff_ne, bne_iff_ne, bne_eq_false_iff_eq] at *
       subst_vars
       unfold one1S
       rw [HWD.out]
       repeat (first | rw [if_pos (by omega)] | rw [if_neg (by omega)])
       all_goals rfl)
theorem one_B_0 (op d : Int) (w : World) (o1 : 12 ≤ op ∧ op ≤ 15) (hwd : wideS d = 0) (d1 : d < 1 ∨ 16 < d) : Calls Tryz.prog 158 #[.int .i64 op, .int .i64 d] w (RHead w (one1S op d)) := by
  have hnd := numS_range d
  have MM := Lib.hid (M1.of op d)
  unfold M1 at MM
  have HWD := Lib.hid hwd
  clear hwd
  obtain ⟨o1, o2⟩ := o1
  have e1 : (d == 1) = false := by simp; omega
  have e9 : (d == 9) = false := by simp; omega
  have hb : bits .and .u8 (op - 12) 7 = op - 12 := by rw [band7 _ (by omega) (by omega)]; omega
  go_enter Tryz.func158, Tryz.ntmps158
  go_wp2_with (first
    | (go_at_call 191; ((with_reducible refine (wide_any _ _).mono ?_); (first | rw [HWD.out] | rw [show wideS 17 = 0 from rfl]); rintro e w' ⟨rfl, rfl⟩))
    | (go_at_call 193; ((with_reducible refine (num_any _ (by omega) (by omega) _).mono ?_); rintro e w' ⟨rfl, rfl⟩))
    | (go_at_call 195; ((with_reducible refine (mem_any _ _ (by omega) (by omega) _).mono ?_); rintro e w' ⟨rfl, rfl⟩))
    | (go_at_call 192; ((with_reducible refine (rm_any _ _ (by omega) (by omega) _).mono ?_); rintro e w' ⟨rfl, rfl⟩))
    | (go_at_call 159; ((with_reducible refine (of159_any _ _ _ _ _).mono ?_); rintro e w1 ⟨rfl, hx1⟩; have B0 := ((Blk.new w #[.slice none 0 0, .int .i64 0] 137).alloc _).ext hx1; have k0 := B0.cell; have f0 := B0.frozen)))
  all_goals first
    | (refine bodyPost_ret (res1 rfl _ _ _ w.heap.size _ rfl (load137 ((B0.put 0 _).put 1 _))) rfl (head_end2 (w.alloc (.cells #[.slice none 0 0, .int .i64 0] 137)) _ _ ?_ ?_ ?_ ((Ext.refl w).alloc _) (by simp) (by simp) hx1) <;> clear hx1 B0 k0 f0
       · simp only [beq_iff_eq, beq_eq_false_iff_ne, bne_iff_ne, bne_eq_false_iff_eq] at *
         subst_vars
         unfold one1S
         rw [HWD.out]
         repeat (first | rw [if_pos (by omega)] | rw [if_neg (by omega)])
         all_goals rfl
       · have M := MM.out
         subst_vars
         first | omega | decide
       · have M := MM.out
         subst_vars
         first | omega | decide)
    | (refine bodyPost_ret (res1 rfl _ _ _ w.heap.size _ rfl (load137 ((B0.put 0 _).put 1 _))) rfl (head_end1 (w.alloc (.cells #[.slice none 0 0, .int .i64 0] 137)) _ _ ?_ ?_ ((Ext.refl w).alloc _) (by simp) (by simp) hx1) <;> clear hx1 B0 k0 f0
       · simp only [beq_iff_eq, beq_eq_false_iff_ne, bne_iff_ne, bne_eq_false_iff_eq] at *
         subst_vars
         unfold one1S
         rw [HWD.out]
         repeat (first | rw [if_pos (by omega)] | rw [if_neg (by omega)])
         all_goals rfl
       · have M := MM.out
         subst_vars
         omega)
    | (refine bodyPost_ret (res1 rfl _ _ _ w.heap.size _ rfl (load137 (c0 := .slice none 0 0) (c1 := .int .i64 0) (Blk.new w _ 137))) rfl (RHead.mk (l := []) (n := 0) (t := 0) ?_ rfl (Byts.nil _) ((Ext.refl _).alloc _))
       simp only [beq_iff_eq, beq_eq_false_iff_ne, bne_iff_ne, bne_eq_false_iff_eq] at *
       subst_vars
       unfold one1S
       rw [HWD.out]
       repeat (first | rw [if_pos (by omega)] | rw [if_neg (by omega)])
       all_goals rfl)
theorem one_C_8 (op d : Int) (w : World) (o1 : 16 ≤ op ∧ op ≤ 17) (hwd : wideS d = 8) (d1 : 1 ≤ d) (d2 : d ≤ 8) : Calls Tryz.prog 158 #[.int .i64 op, .int .i64 d] w (RHead w (one1S op d)) := by
  have hnd := numS_range d
  have MM := Lib.hid (M1.of op d)
  unfold M1 at MM
  have HWD := Lib.hid hwd
  clear hwd
  obtain ⟨o1, o2⟩ := o1
  have e9 : (d == 9) = false := by simp; omega
  have e17 : (d == 17) = false := by simp; omega
  have e18 : (d == 18) = false := by simp; omega
  have e19 : (d == 19) = false := by simp; omega
  have e20 : (d == 20) = false := by simp; omega
  go_enter Tryz.func158, Tryz.ntmps158
  go_wp2_with (first
    | (go_at_call 191; ((with_reducible refine (wide_any _ _).mono ?_); (first | rw [HWD.out] | rw [show wideS 17 = 0 from rfl]); rintro e w' ⟨rfl, rfl⟩))
    | (go_at_call 193; ((with_reducible refine (num_any _ (by omega) (by omega) _).mono ?_); rintro e w' ⟨rfl, rfl⟩))
    | (go_at_call 195; ((with_reducible refine (mem_any _ _ (by omega) (by omega) _).mono ?_); rintro e w' ⟨rfl, rfl⟩))
    | (go_at_call 192; ((with_reducible refine (rm_any _ _ (by omega) (by omega) _).mono ?_); rintro e w' ⟨rfl, rfl⟩))
    | (go_at_call 159; ((with_reducible refine (of159_any _ _ _ _ _).mono ?_); rintro e w1 ⟨rfl, hx1⟩; have B0 := ((Blk.new w #[.slice none 0 0, .int .i64 0] 137).alloc _).ext hx1; have k0 := B0.cell; have f0 := B0.frozen)))
  all_goals first
    | (refine bodyPost_ret (res1 rfl _ _ _ w.heap.size _ rfl (load137 ((B0.put 0 _).put 1 _))) rfl (head_end2 (w.alloc (.cells #[.slice none 0 0, .int .i64 0] 137)) _ _ ?_ ?_ ?_ ((Ext.refl w).alloc _) (by simp) (by simp) hx1) <;> clear hx1 B0 k0 f0
       · simp only [beq_iff_eq, beq_eq_false_iff_ne, bne_iff_ne, bne_eq_false_iff_eq] at *
         subst_vars
         unfold one1S
         rw [HWD.out]
         repeat (first | rw [if_pos (by omega)] | rw [if_neg (by omega)])
         all_goals rfl
       · have M := MM.out
         subst_vars
         first | omega | decide
       · have M := MM.out
         subst_vars
         first | omega | decide)
    | (refine bodyPost_ret (res1 rfl _ _ _ w.heap.size _ rfl (load137 ((B0.put 0 _).put 1 _))) rfl (head_end1 (w.alloc (.cells #[.slice none 0 0, .int .i64 0] 137)) _ _ ?_ ?_ ((Ext.refl w).alloc _) (by simp) (by simp) hx1) <;> clear hx1 B0 k0 f0
       · simp only [beq_iff_eq, beq_eq_false_iff_ne, bne_iff_ne, bne_eq_false_iff_eq] at *
         subst_vars
         unfold one1S
         rw [HWD.out]
         repeat (first | rw [if_pos (by omega)] | rw [if_neg (by omega)])
         all_goals rfl
       · have M := MM.out
         subst_vars
         omega)
    | (refine bodyPost_ret (res1 rfl _ _ _ w.heap.size _ rfl (load137 (c0 := .slice none 0 0) (c1 := .int .i64 0) (Blk.new w _ 137))) rfl (RHead.mk (l := []) (n := 0) (t := 0) ?_ rfl (Byts.nil _) ((Ext.refl _).alloc _))
       simp only [beq_iff_eq, beq_eq_false_iff_ne, bne_iff_ne, bne_eq_false_iff_eq] at *
       subst_vars
       unfold one1S
       rw [HWD.out]
       repeat (first | rw [if_pos (by omega)] | rw [if_neg (by omega)])
       all_goals rfl)
theorem one_C_16 (op d : Int) (w : World) (o1 : 16 ≤ op ∧ op ≤ 17) (hwd : wideS d = 16) (d1 : 9 ≤ d) (d2 : d ≤ 16) : Calls Tryz.prog 158 #[.int .i64 op, .int .i64 d] w (RHead w (one1S op d)) := by
  have hnd := numS_range d
  have MM := Lib.hid (M1.of op d)
  unfold M1 at MM
  have HWD := Lib.hid hwd
  clear hwd
  obtain ⟨o1, o2⟩ := o1
  have e1 : (d == 1) = false := by simp; omega
  have e17 : (d == 17) = false := by simp; omega
  have e18 : (d == 18) = false := by simp; omega
  have e19 : (d == 19) = false := by simp; omega
  have e20 : (d == 20) = false := by simp; omega
  go_enter Tryz.func158, Tryz.ntmps158
  go_wp2_with (first
    | (go_at_call 191; ((with_reducible refine (wide_any _ _).mono ?_); (first | rw [HWD.out] | rw [show wideS 17 = 0 from rfl]); rintro e w' ⟨rfl, rfl⟩))
    | (go_at_call 193; ((with_reducible refine (num_any _ (by omega) (by omega) _).mono ?_); rintro e w' ⟨rfl, rfl⟩))
    | (go_at_call 195; ((with_reducible refine (mem_any _ _ (by omega) (by omega) _).mono ?_); rintro e w' ⟨rfl, rfl⟩))
    | (go_at_call 192; ((with_reducible refine (rm_any _ _ (by omega) (by omega) _).mono ?_); rintro e w' ⟨rfl, rfl⟩))
    | (go_at_call 159; ((with_reducible refine (of159_any _ _ _ _ _).mono ?_); rintro e w1 ⟨rfl, hx1⟩; have B0 := ((Blk.new w #[.slice none 0 0, .int .i64 0] 137).alloc _).ext hx1; have k0 := B0.cell; have f0 := B0.frozen)))
  all_goals first
    | (refine bodyPost_ret (res1 rfl _ _ _ w.heap.size _ rfl (load137 ((B0.put 0 _).put 1 _))) rfl (head_end2 (w.alloc (.cells #[.slice none 0 0, .int .i64 0] 137)) _ _ ?_ ?_ ?_ ((Ext.refl w).alloc _) (by simp) (by simp) hx1) <;> clear hx1 B0 k0 f0
       · simp only [beq_iff_eq, beq_eq_false_iff_ne, bne_iff_ne, bne_eq_false_iff_eq] at *
         subst_vars
         unfold one1S
         rw [HWD.out]
         repeat (first | rw [if_pos (by omega)] | rw [if_neg (by omega)])
         all_goals rfl
       · have M := MM.out
         subst_vars
         first | omega | decide
       · have M := MM.out
         subst_vars
         first | omega | decide)
    | (refine bodyPost_ret (res1 rfl _ _ _ w.heap.size _ rfl (load137 ((B0.put 0 _).put 1 _))) rfl (head_end1 (w.alloc (.cells #[.slice none 0 0, .int .i64 0] 137)) _ _ ?_ ?_ ((Ext.refl w).alloc _) (by simp) (by simp) hx1) <;> clear hx1 B0 k0 f0
       · simp only [beq_iff_eq, beq_eq_false_iff_ne, bne_iff_ne, bne_eq_false_iff_eq] at *
         subst_vars
         unfold one1S
         rw [HWD.out]
         repeat (first | rw [if_pos (by omega)] | rw [if_neg (by omega)])
         all_goals rfl
       · have M := MM.out
         subst_vars
         omega)
    | (refine bodyPost_ret (res1 rfl _ _ _ w.heap.size _ rfl (load137 (c0 := .slice none 0 0) (c1 := .int .i64 0) (Blk.new w _ 137))) rfl (RHead.mk (l := []) (n := 0) (t := 0) ?_ rfl (Byts.nil _) ((Ext.refl _).alloc _))
       simp only [beq_iff_eq, beq_eq_false_iff_ne, bne_iff_ne, bne_eq_false_iff_eq] at *
       subst_vars
       unfold one1S
       rw [HWD.out]
       repeat (first | rw [if_pos (by omega)] | rw [if_neg (by omega)])
       all_goals rfl)
theorem one_C_0 (op d : Int) (w : World) (o1 : 16 ≤ op ∧ op ≤ 17) (hwd : wideS d = 0) (d1 : d < 1 ∨ 16 < d) : Calls Tryz.prog 158 #[.int .i64 op, .int .i64 d] w (RHead w (one1S op d)) := by
  have hnd := numS_range d
  have MM := Lib.hid (M1.of op d)
  unfold M1 at MM
  have HWD := Lib.hid hwd
  clear hwd
  obtain ⟨o1, o2⟩ := o1
  have e1 : (d == 1) = false := by simp; omega
  have e9 : (d == 9) = false := by simp; omega
  go_enter Tryz.func158, Tryz.ntmps158
  go_wp2_with (first
    | (go_at_call 191; ((with_reducible refine (wide_any _ _).mono ?_); (first | rw [HWD.out] | rw [show wideS 17 = 0 from rfl]); rintro e w' ⟨rfl, rfl⟩))
    | (go_at_call 193; ((with_reducible refine (num_any _ (by omega) (by omega) _).mono ?_); rintro e w' ⟨rfl, rfl⟩))
    | (go_at_call 195; ((with_reducible refine (mem_any _ _ (by omega) (by omega) _).mono ?_); rintro e w' ⟨rfl, rfl⟩))
    | (go_at_call 192; ((with_reducible refine (rm_any _ _ (by omega) (by omega) _).mono ?_); rintro e w' ⟨rfl, rfl⟩))
    | (go_at_call 159; ((with_reducible refine (of159_any _ _ _ _ _).mono ?_); rintro e w1 ⟨rfl, hx1⟩; have B0 := ((Blk.new w #[.slice none 0 0, .int .i64 0] 137).alloc _).ext hx1; have k0 := B0.cell; have f0 := B0.frozen)))
  all_goals first
    | (refine bodyPost_ret (res1 rfl _ _ _ w.heap.size _ rfl (load137 ((B0.put 0 _).put 1 _))) rfl (head_end2 (w.alloc (.cells #[.slice none 0 0, .int .i64 0] 137)) _ _ ?_ ?_ ?_ ((Ext.refl w).alloc _) (by simp) (by simp) hx1) <;> clear hx1 B0 k0 f0
       · simp only [beq_iff_eq, beq_eq_false_iff_ne, bne_iff_ne, bne_eq_false_iff_eq] at *
         subst_vars
         unfold one1S
         rw [HWD.out]
         repeat (first | rw [if_pos (by omega)] | rw [if_neg (by omega)])
         all_goals rfl
       · have M := MM.out
         subst_vars
         first | omega | decide
       · have M := MM.out
         subst_vars
         first | omega | decide)
    | (refine bodyPost_ret (res1 rfl _ _ _ w.heap.size _ rfl (load137 ((B0.put 0 _).put 1 _))) rfl (head_end1 (w.alloc (.cells #[.slice none 0 0, .int .i64 0] 137)) _ _ ?_ ?_ ((Ext.refl w).alloc _) (by simp) (by simp) hx1) <;> clear hx1 B0 k0 f0
       · simp only [beq_iff_eq, beq_eq_false_iff_ne, bne_iff_ne, bne_eq_false_iff_eq] at *
         subst_vars
         unfold one1S
         rw [HWD.out]
         repeat (first | rw [if_pos (by omega)] | rw [if_neg (by omega)])
         all_goals rfl
       · have M := MM.out
         subst_vars
         omega)
    | (refine bodyPost_ret (res1 rfl _ _ _ w.heap.size _ rfl (load137 (c0 := .slice none 0 0) (c1 := .int .i64 0) (Blk.new w _ 137))) rfl (RHead.mk (l := []) (n := 0) (t := 0) ?_ rfl (Byts.nil _) ((Ext.refl _).alloc _))
       simp only [beq_iff_eq, beq_eq_false_iff_ne, bne_iff_ne, bne_eq_false_iff_eq] at *
       subst_vars
       unfold one1S
       rw [HWD.out]
       repeat (first | rw [if_pos (by omega)] | rw [if_neg (by omega)])
       all_goals rfl)
theorem one_D_8 (op d : Int) (w : World) (o1 : 18 ≤ op ∧ op ≤ 19) (hwd : wideS d = 8) (d1 : 1 ≤ d) (d2 : d ≤ 8) : Calls Tryz.prog 158 #[.int .i64 op, .int .i64 d] w (RHead w (one1S op d)) := by
  have hnd := numS_range d
  have MM := Lib.hid (M1.of op d)
  unfold M1 at MM
  have HWD := Lib.hid hwd
  clear hwd
  obtain ⟨o1, o2⟩ := o1
  have e9 : (d == 9) = false := by simp; omega
  have e17 : (d == 17) = false := by simp; omega
  have e18 : (d == 18) = false := by simp; omega
  have e19 : (d == 19) = false := by simp; omega
  have e20 : (d == 20) = false := by simp; omega
  go_enter Tryz.func158, Tryz.ntmps158
  go_wp2_with (first
    | (go_at_call 191; ((with_reducible refine (wide_any _ _).mono ?_); (first | rw [HWD.out] | rw [show wideS 17 = 0 from rfl]); rintro e w' ⟨rfl, rfl⟩))
    | (go_at_call 193; ((with_reducible refine (num_any _ (by omega) (by omega) _).mono ?_); rintro e w' ⟨rfl, rfl⟩))
    | (go_at_call 195; ((with_reducible refine (mem_any _ _ (by omega) (by omega) _).mono ?_); rintro e w' ⟨rfl, rfl⟩))
    | (go_at_call 192; ((with_reducible refine (rm_any _ _ (by omega) (by omega) _).mono ?_); rintro e w' ⟨rfl, rfl⟩))
    | (go_at_call 159; ((with_reducible refine (of159_any _ _ _ _ _).mono ?_); rintro e w1 ⟨rfl, hx1⟩; have B0 := ((Blk.new w #[.slice none 0 0, .int .i64 0] 137).alloc _).ext hx1; have k0 := B0.cell; have f0 := B0.frozen)))
  all_goals first
    | (refine bodyPost_ret (res1 rfl _ _ _ w.heap.size _ rfl (load137 ((B0.put 0 _).put 1 _))) rfl (head_end2 (w.alloc (.cells #[.slice none 0 0, .int .i64 0] 137)) _ _ ?_ ?_ ?_ ((Ext.refl w).alloc _) (by simp) (by simp) hx1) <;> clear hx1 B0 k0 f0
       · simp only [beq_iff_eq, beq_eq_false_iff_ne, bne_iff_ne, bne_eq_false_iff_eq] at *
         subst_vars
         unfold one1S
         rw [HWD.out]
         repeat (first | rw [if_pos (by omega)] | rw [if_neg (by omega)])
         all_goals rfl
       · have M := MM.out
         subst_vars
         first | omega | decide
       · have M := MM.out
         subst_vars
         first | omega | decide)
    | (refine bodyPost_ret (res1 rfl _ _ _ w.heap.size _ rfl (load137 ((B0.put 0 _).put 1 _))) rfl (head_end1 (w.alloc (.cells #[.slice none 0 0, .int .i64 0] 137)) _ _ ?_ ?_ ((Ext.refl w).alloc _) (by simp) (by simp) hx1) <;> clear hx1 B0 k0 f0
       · simp only [beq_iff_eq, beq_eq_false_iff_ne, bne_iff_ne, bne_eq_false_iff_eq] at *
         subst_vars
         unfold one1S
         rw [HWD.out]
         repeat (first | rw [if_pos (by omega)] | rw [if_neg (by omega)])
         all_goals rfl
       · have M := MM.out
         subst_vars
         omega)
    | (refine bodyPost_ret (res1 rfl _ _ _ w.heap.size _ rfl (load137 (c0 := .slice none 0 0) (c1 := .int .i64 0) (Blk.new w _ 137))) rfl (RHead.mk (l := []) (n := 0) (t := 0) ?_ rfl (Byts.nil _) ((Ext.refl _).alloc _))
       simp only [beq_iff_eq, beq_eq_false_iff_ne, bne_iff_ne, bne_eq_false_iff_eq] at *
       subst_vars
       unfold one1S
       rw [HWD.out]
       repeat (first | rw [if_pos (by omega)] | rw [if_neg (by omega)])
       all_goals rfl)
theorem one_D_16 (op d : Int) (w : World) (o1 : 18 ≤ op ∧ op ≤ 19) (hwd : wideS d = 16) (d1 : 9 ≤ d) (d2 : d ≤ 16) : Calls Tryz.prog 158 #[.int .i64 op, .int .i64 d] w (RHead w (one1S op d)) := by
  have hnd := numS_range d
  have MM := Lib.hid (M1.of op d)
  unfold M1 at MM
  have HWD := Lib.hid hwd
  clear hwd
  obtain ⟨o1, o2⟩ := o1
  have e1 : (d == 1) = false := by simp; omega
  have e17 : (d == 17) = false := by simp; omega
  have e18 : (d == 18) = false := by simp; omega
  have e19 : (d == 19) = false := by simp; omega
  have e20 : (d == 20) = false := by simp; omega
  go_enter Tryz.func158, Tryz.ntmps158
  go_wp2_with (first
    | (go_at_call 191; ((with_reducible refine (wide_any _ _).mono ?_); (first | rw [HWD.out] | rw [show wideS 17 = 0 from rfl]); rintro e w' ⟨rfl, rfl⟩))
    | (go_at_call 193; ((with_reducible refine (num_any _ (by omega) (by omega) _).mono ?_); rintro e w' ⟨rfl, rfl⟩))
    | (go_at_call 195; ((with_reducible refine (mem_any _ _ (by omega) (by omega) _).mono ?_); rintro e w' ⟨rfl, rfl⟩))
    | (go_at_call 192; ((with_reducible refine (rm_any _ _ (by omega) (by omega) _).mono ?_); rintro e w' ⟨rfl, rfl⟩))
    | (go_at_call 159; ((with_reducible refine (of159_any _ _ _ _ _).mono ?_); rintro e w1 ⟨rfl, hx1⟩; have B0 := ((Blk.new w #[.slice none 0 0, .int .i64 0] 137).alloc _).ext hx1; have k0 := B0.cell; have f0 := B0.frozen)))
  all_goals first
    | (refine bodyPost_ret (res1 rfl _ _ _ w.heap.size _ rfl (load137 ((B0.put 0 _).put 1 _))) rfl (head_end2 (w.alloc (.cells #[.slice none 0 0, .int .i64 0] 137)) _ _ ?_ ?_ ?_ ((Ext.refl w).alloc _) (by simp) (by simp) hx1) <;> clear hx1 B0 k0 f0
       · simp only [beq_iff_eq, beq_eq_false_iff_ne, bne_iff_ne, bne_eq_false_iff_eq] at *
         subst_vars
         unfold one1S
         rw [HWD.out]
         repeat (first | rw [if_pos (by omega)] | rw [if_neg (by omega)])
         all_goals rfl
       · have M := MM.out
         subst_vars
         first | omega | decide
       · have M := MM.out
         subst_vars
         first | omega | decide)
    | (refine bodyPost_ret (res1 rfl _ _ _ w.heap.size _ rfl (load137 ((B0.put 0 _).put 1 _))) rfl (head_end1 (w.alloc (.cells #[.slice none 0 0, .int .i64 0] 137)) _ _ ?_ ?_ ((Ext.refl w).alloc _) (by simp) (by simp) hx1) <;> clear hx1 B0 k0 f0
       · simp only [beq_iff_eq, beq_eq_false_iff_ne, bne_iff_ne, bne_eq_false_iff_eq] at *
         subst_vars
         unfold one1S
         rw [HWD.out]
         repeat (first | rw [if_pos (by omega)] | rw [if_neg (by omega)])
         all_goals rfl
       · have M := MM.out
         subst_vars
         omega)
    | (refine bodyPost_ret (res1 rfl _ _ _ w.heap.size _ rfl (load137 (c0 := .slice none 0 0) (c1 := .int .i64 0) (Blk.new w _ 137))) rfl (RHead.mk (l := []) (n := 0) (t := 0) ?_ rfl (Byts.nil _) ((Ext.refl _).alloc _))
       simp only [beq_iff_eq, beq_eq_false_iff_ne, bne_iff_ne, bne_eq_false_iff_eq] at *
       subst_vars
       unfold one1S
       rw [HWD.out]
       repeat (first | rw [if_pos (by omega)] | rw [if_neg (by omega)])
       all_goals rfl)
theorem one_D_0 (op d : Int) (w : World) (o1 : 18 ≤ op ∧ op ≤ 19) (hwd : wideS d = 0) (d1 : d < 1 ∨ 16 < d) : Calls Tryz.prog 158 #[.int .i64 op, .int .i64 d] w (RHead w (one1S op d)) := by
  have hnd := numS_range d
  have MM := Lib.hid (M1.of op d)
  unfold M1 at MM
  have HWD := Lib.hid hwd
  clear hwd
  obtain ⟨o1, o2⟩ := o1
  have e1 : (d == 1) = false := by simp; omega
  have e9 : (d == 9) = false := by simp; omega
  go_enter Tryz.func158, Tryz.ntmps158
  go_wp2_with (first
    | (go_at_call 191; ((with_reducible refine (wide_any _ _).mono ?_); (first | rw [HWD.out] | rw [show wideS 17 = 0 from rfl]); rintro e w' ⟨rfl, rfl⟩))
    | (go_at_call 193; ((with_reducible refine (num_any _ (by omega) (by omega) _).mono ?_); rintro e w' ⟨rfl, rfl⟩))
    | (go_at_call 195; ((with_reducible refine (mem_any _ _ (by omega) (by omega) _).mono ?_); rintro e w' ⟨rfl, rfl⟩))
    | (go_at_call 192; ((with_reducible refine (rm_any _ _ (by omega) (by omega) _).mono ?_); rintro e w' ⟨rfl, rfl⟩))
    | (go_at_call 159; ((with_reducible refine (of159_any _ _ _ _ _).mono ?_); rintro e w1 ⟨rfl, hx1⟩; have B0 := ((Blk.new w #[.slice none 0 0, .int .i64 0] 137).alloc _).ext hx1; have k0 := B0.cell; have f0 := B0.frozen)))
  all_goals first
    | (refine bodyPost_ret (res1 rfl _ _ _ w.heap.size _ rfl (load137 ((B0.put 0 _).put 1 _))) rfl (head_end2 (w.alloc (.cells #[.slice none 0 0, .int .i64 0] 137)) _ _ ?_ ?_ ?_ ((Ext.refl w).alloc _) (by simp) (by simp) hx1) <;> clear hx1 B0 k0 f0
       · simp only [beq_iff_eq, beq_eq_false_iff_ne, bne_iff_ne, bne_eq_false_iff_eq] at *
         subst_vars
         unfold one1S
         rw [HWD.out]
         repeat (first | rw [if_pos (by omega)] | rw [if_neg (by omega)])
         all_goals rfl
       · have M := MM.out
         subst_vars
         first | omega | decide
       · have M := MM.out
         subst_vars
         first | omega | decide)
    | (refine bodyPost_ret (res1 rfl _ _ _ w.heap.size _ rfl (load137 ((B0.put 0 _).put 1 _))) rfl (head_end1 (w.alloc (.cells #[.slice none 0 0, .int .i64 0] 137)) _ _ ?_ ?_ ((Ext.refl w).alloc _) (by simp) (by simp) hx1) <;> clear hx1 B0 k0 f0
       · simp only [beq_iff_eq, beq_eq_false_iff_ne, bne_iff_ne, bne_eq_false_iff_eq] at *
         subst_vars
         unfold one1S
         rw [HWD.out]
         repeat (first | rw [if_pos (by omega)] | rw [if_neg (by omega)])
         all_goals rfl
       · have M := MM.out
         subst_vars
         omega)
    | (refine bodyPost_ret (res1 rfl _ _ _ w.heap.size _ rfl (load137 (c0 := .slice none 0 0) (c1 := .int .i64 0) (Blk.new w _ 137))) rfl (RHead.mk (l := []) (n := 0) (t := 0) ?_ rfl (Byts.nil _) ((Ext.refl _).alloc _))
       simp only [beq_iff_eq, beq_eq_false_iff_ne, bne_iff_ne, bne_eq_false_iff_eq] at *
       subst_vars
       unfold one1S
       rw [HWD.out]
       repeat (first | rw [if_pos (by omega)] | rw [if_neg (by omega)])
       all_goals rfl)
theorem one1_any (op d : Int) (h0 : 10 ≤ op) (h1 : op ≤ 19) (w : World) : Calls Tryz.prog 158 #[.int .i64 op, .int .i64 d] w (RHead w (one1S op d)) := by
  by_cases hA : op ≤ 11
  · rcases wideS_range d with ⟨hd, d1, d2⟩ | ⟨hd, d1, d2⟩ | ⟨hd, d1⟩
    · exact one_A_8 op d w (by omega) hd d1 d2
    · exact one_A_16 op d w (by omega) hd d1 d2
    · exact one_A_0 op d w (by omega) hd d1
  by_cases hB : op ≤ 15
  · rcases wideS_range d with ⟨hd, d1, d2⟩ | ⟨hd, d1, d2⟩ | ⟨hd, d1⟩
    · exact one_B_8 op d w (by omega) hd d1 d2
    · exact one_B_16 op d w (by omega) hd d1 d2
    · exact one_B_0 op d w (by omega) hd d1
  by_cases hC : op ≤ 17
  · rcases wideS_range d with ⟨hd, d1, d2⟩ | ⟨hd, d1, d2⟩ | ⟨hd, d1⟩
    · exact one_C_8 op d w (by omega) hd d1 d2
    · exact one_C_16 op d w (by omega) hd d1 d2
    · exact one_C_0 op d w (by omega) hd d1
  rcases wideS_range d with ⟨hd, d1, d2⟩ | ⟨hd, d1, d2⟩ | ⟨hd, d1⟩
  · exact one_D_8 op d w (by omega) hd d1 d2
  · exact one_D_16 op d w (by omega) hd d1 d2
  · exact one_D_0 op d w (by omega) hd d1

end Go.Proofs.YtnklmehphmidhaaGreatDoor
