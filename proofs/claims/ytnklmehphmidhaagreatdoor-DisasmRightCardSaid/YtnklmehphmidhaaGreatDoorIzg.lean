/- isa86: heads. -/
import Derived.Test.YtnklmehphmidhaaGreatDoorIzf
namespace Go.Proofs.YtnklmehphmidhaaGreatDoor
open Go.RowKit
set_option maxRecDepth 100000
set_option maxHeartbeats 4000000
set_option linter.unusedSimpArgs false
set_option linter.unusedVariables false

def headsS (op d s : Int) : List Int × Int :=
  if op < 1 then ([], 0)
  else if s ≠ 0 ∨ op = 1 ∨ op = 17 then twoS op d s
  else if 10 ≤ op ∧ op ≤ 19 then one1S op d
  else if d = 0 ∧ 20 ≤ op ∧ op ≤ 29 then ([aloneL.getD (op - 20).toNat 0], 0)
  else if d = 0 ∧ op = 35 then ([195], 0)
  else if d ≠ 20 then ([], 0)
  else if op = 32 then ([233], 2)
  else if op = 33 then ([235], 3)
  else if op = 34 then ([232], 2)
  else if 42 ≤ op ∧ op ≤ 51 ∧ op ≠ 46 ∧ op ≠ 47 then ([bits .or .u8 112 (op - 40)], 3)
  else ([], 0)

theorem heads_any (op d s : Int) (h0 : 0 ≤ op) (h1 : op ≤ 255) (w : World) : Calls Tryz.prog 115 #[.int .i64 op, .int .i64 d, .int .i64 s] w (RHead w (headsS op d s)) := by
  by_cases hT : 20 ≤ op ∧ op ≤ 29
  · obtain ⟨t0, t1⟩ := hT
    clear h0 h1
    have hc : op = 20 ∨ op = 21 ∨ op = 22 ∨ op = 23 ∨ op = 24 ∨ op = 25 ∨ op = 26 ∨ op = 27 ∨ op = 28 ∨ op = 29 := by omega
    clear t0 t1
    rcases hc with rfl | rfl | rfl | rfl | rfl | rfl | rfl | rfl | rfl | rfl
    all_goals
      go_enter Tryz.func115, Tryz.ntmps115
      go_wp2_with (first
        | (go_at_call 157; ((with_reducible refine (two_any _ _ _ (by omega) (by omega) _).mono ?_); rintro e w1 ⟨A, c, rfl, hby, hx1⟩; have B0 := (Blk.new w #[.slice none 0 0, .int .i64 0] 137).ext hx1; have k0 := B0.cell; have f0 := B0.frozen))
        | (go_at_call 158; ((with_reducible refine (one1_any _ _ (by omega) (by omega) _).mono ?_); rintro e w1 ⟨A, c, rfl, hby, hx1⟩; have B0 := (Blk.new w #[.slice none 0 0, .int .i64 0] 137).ext hx1; have k0 := B0.cell; have f0 := B0.frozen))
        | (go_at_call 159; ((with_reducible refine (of159_any _ _ _ _ _).mono ?_); rintro e w1 ⟨rfl, hx1⟩; have B0 := ((Blk.new w #[.slice none 0 0, .int .i64 0] 137).alloc _).ext hx1; have k0 := B0.cell; have f0 := B0.frozen)))
      all_goals first
        | (refine bodyPost_ret (res1 rfl _ _ _ w.heap.size _ rfl (load137 ((B0.put 0 _).put 1 _))) rfl (head_end1 (w.alloc (.cells #[.slice none 0 0, .int .i64 0] 137)) _ _ ?_ ?_ ((Ext.refl w).alloc _) (by simp) (by simp) hx1) <;> clear hx1 B0 k0 f0
           · (try simp only [beq_iff_eq, beq_eq_false_iff_ne, bne_iff_ne, bne_eq_false_iff_eq] at *)
             subst_vars
             unfold headsS
             repeat (first | rw [if_pos (by omega)] | rw [if_neg (by omega)])
             all_goals rfl
           · (try have M := MM.out)
             subst_vars
             first | omega | decide)
        | (refine bodyPost_ret (res1 rfl _ _ _ w.heap.size _ rfl (load137 ((B0.put 0 _).put 1 _))) rfl (RHead.pass ?_ B0 hby (((Ext.refl w).alloc _).trans hx1)) <;> clear hx1 B0 k0 f0 hby
           (try simp only [beq_iff_eq, beq_eq_false_iff_ne, bne_iff_ne, bne_eq_false_iff_eq] at *)
           subst_vars
           unfold headsS
           repeat (first | rw [if_pos (by omega)] | rw [if_neg (by omega)])
           all_goals rfl)
        | (refine bodyPost_ret (res1 rfl _ _ _ w.heap.size _ rfl (load137 (c0 := .slice none 0 0) (c1 := .int .i64 0) (Blk.new w _ 137))) rfl (RHead.mk (l := []) (n := 0) (t := 0) ?_ rfl (Byts.nil _) ((Ext.refl _).alloc _))
           (try simp only [beq_iff_eq, beq_eq_false_iff_ne, bne_iff_ne, bne_eq_false_iff_eq] at *)
           subst_vars
           unfold headsS
           repeat (first | rw [if_pos (by omega)] | rw [if_neg (by omega)])
           all_goals rfl)
  · have M : 42 ≤ op → op ≤ 51 → 0 ≤ bits .or .u8 112 (op - 40) ∧ bits .or .u8 112 (op - 40) ≤ 255 := fun h0 h1 => or_range _ _ (by omega) (by omega) (by omega)
    have MM := Lib.hid M
    have hT2 : op < 20 ∨ 29 < op := by omega
    clear M hT
    go_enter Tryz.func115, Tryz.ntmps115
    go_wp2_with (first
      | (go_at_call 157; ((with_reducible refine (two_any _ _ _ (by omega) (by omega) _).mono ?_); rintro e w1 ⟨A, c, rfl, hby, hx1⟩; have B0 := (Blk.new w #[.slice none 0 0, .int .i64 0] 137).ext hx1; have k0 := B0.cell; have f0 := B0.frozen))
      | (go_at_call 158; ((with_reducible refine (one1_any _ _ (by omega) (by omega) _).mono ?_); rintro e w1 ⟨A, c, rfl, hby, hx1⟩; have B0 := (Blk.new w #[.slice none 0 0, .int .i64 0] 137).ext hx1; have k0 := B0.cell; have f0 := B0.frozen))
      | (go_at_call 159; ((with_reducible refine (of159_any _ _ _ _ _).mono ?_); rintro e w1 ⟨rfl, hx1⟩; have B0 := ((Blk.new w #[.slice none 0 0, .int .i64 0] 137).alloc _).ext hx1; have k0 := B0.cell; have f0 := B0.frozen)))
    all_goals first
      | (refine bodyPost_ret (res1 rfl _ _ _ w.heap.size _ rfl (load137 ((B0.put 0 _).put 1 _))) rfl (head_end1 (w.alloc (.cells #[.slice none 0 0, .int .i64 0] 137)) _ _ ?_ ?_ ((Ext.refl w).alloc _) (by simp) (by simp) hx1) <;> clear hx1 B0 k0 f0
         · (try simp only [beq_iff_eq, beq_eq_false_iff_ne, bne_iff_ne, bne_eq_false_iff_eq] at *)
           subst_vars
           unfold headsS
           repeat (first | rw [if_pos (by omega)] | rw [if_neg (by omega)])
           all_goals rfl
         · (try have M := MM.out)
           subst_vars
           first | omega | decide)
      | (refine bodyPost_ret (res1 rfl _ _ _ w.heap.size _ rfl (load137 ((B0.put 0 _).put 1 _))) rfl (RHead.pass ?_ B0 hby (((Ext.refl w).alloc _).trans hx1)) <;> clear hx1 B0 k0 f0 hby
         (try simp only [beq_iff_eq, beq_eq_false_iff_ne, bne_iff_ne, bne_eq_false_iff_eq] at *)
         subst_vars
         unfold headsS
         repeat (first | rw [if_pos (by omega)] | rw [if_neg (by omega)])
         all_goals rfl)
      | (refine bodyPost_ret (res1 rfl _ _ _ w.heap.size _ rfl (load137 (c0 := .slice none 0 0) (c1 := .int .i64 0) (Blk.new w _ 137))) rfl (RHead.mk (l := []) (n := 0) (t := 0) ?_ rfl (Byts.nil _) ((Ext.refl _).alloc _))
         (try simp only [beq_iff_eq, beq_eq_false_iff_ne, bne_iff_ne, bne_eq_false_iff_eq] at *)
         subst_vars
         unfold headsS
         repeat (first | rw [if_pos (by omega)] | rw [if_neg (by omega)])
         all_goals rfl)
end Go.Proofs.YtnklmehphmidhaaGreatDoor
