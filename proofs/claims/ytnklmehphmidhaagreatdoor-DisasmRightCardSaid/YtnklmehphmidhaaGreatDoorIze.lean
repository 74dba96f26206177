/- isa86: heads of two operands, the greater law. -/
import Derived.Test.YtnklmehphmidhaaGreatDoorIzd
namespace Go.Proofs.YtnklmehphmidhaaGreatDoor
open Go.RowKit
set_option maxRecDepth 100000
set_option maxHeartbeats 4000000
set_option linter.unusedSimpArgs false
set_option linter.unusedVariables false

theorem Byts.keep {w : World} {v : Value} {l : List Int} (h : Byts w v l) {g : Nat} (B : Blk w g #[.slice none 0 0, .int .i64 0]) (a b : Value) : Byts ((w.setCell ⟨g, 0, none⟩ a).setCell ⟨g, 1, none⟩ b) v l := by
  obtain ⟨A, c, rfl, h1, h2, h3, h4⟩ := h
  rcases Nat.eq_zero_or_pos l.length with h0 | h0
  · refine ⟨A, c, rfl, h1, h2, h3, fun hp => absurd hp (by omega)⟩
  · have hne : ∀ b o, A = some ⟨b, o, none⟩ → b ≠ g := by
      intro b o hA e
      subst e
      obtain ⟨b', o', hA', hb, hc⟩ := h4 h0
      rw [hA] at hA'
      injection hA' with e
      injection e with e1 e2
      subst e1; subst e2
      have := hc 0 h0
      rw [B.cell] at this
      match o, this with
      | 0, this => simp at this
      | 1, this => simp at this
      | k + 2, this => simp at this
    exact (Byts.other ⟨A, c, rfl, h1, h2, h3, h4⟩ ⟨g, 0, none⟩ hne a).other ⟨g, 1, none⟩ hne b
theorem RHead.pass {w W : World} {r r' : List Int × Int} {A : Option Addr} {c : Nat} {a b : Value} (hr : r' = r) (B : Blk W w.heap.size #[.slice none 0 0, .int .i64 0]) (hb : Byts W (.slice A r.1.length c) r.1) (hx : Ext w W) :
    RHead w r' (.returned (.agg #[.slice A r.1.length c, .int .i64 r.2])) ((W.setCell ⟨w.heap.size, 0, none⟩ a).setCell ⟨w.heap.size, 1, none⟩ b) := by
  subst hr
  exact ⟨A, c, rfl, hb.keep B a b, (hx.setCell (Nat.le_refl _) _).setCell (Nat.le_refl _) _⟩

def wS (d : Int) : Int := if wideS d = 16 then 1 else 0
def twoS (op d s : Int) : List Int × Int :=
  if op = 1 ∧ wideS d ≠ 0 ∧ wideS d = wideS s then ([bits .or .u8 136 (wS d), rmS (numS s) (numS d)], 0)
  else if op = 1 then placesS d s
  else if op = 17 ∧ (wideS d ≠ 0 ∧ wideS d = wideS s) ∧ d ≠ 9 ∧ s ≠ 9 then ([bits .or .u8 134 (wS d), rmS (numS s) (numS d)], 0)
  else if op = 30 ∧ d = 1 ∧ s = 20 then ([228], 1)
  else if op = 31 ∧ d = 20 ∧ s = 1 then ([230], 1)
  else if op < 2 ∨ 9 < op then ([], 0)
  else if wideS d ≠ 0 ∧ wideS d = wideS s then ([bits .or .u8 ((op - 2) * 8) (wS d), rmS (numS s) (numS d)], 0)
  else if wideS d = 8 ∧ s = 17 then ([bits .or .u8 ((op - 2) * 8) 2, memS (numS d) 7], 0)
  else if d = 1 ∧ s = 20 then ([bits .or .u8 ((op - 2) * 8) 4], 1)
  else if wideS d = 8 ∧ s = 20 then ([128, rmS (op - 2) (numS d)], 1)
  else ([], 0)

def M2 (op d s : Int) : Prop := (0 ≤ rmS (numS s) (numS d) ∧ rmS (numS s) (numS d) ≤ 255) ∧ (0 ≤ memS (numS d) 7 ∧ memS (numS d) 7 ≤ 255) ∧ (2 ≤ op → op ≤ 9 → 0 ≤ rmS (op - 2) (numS d) ∧ rmS (op - 2) (numS d) ≤ 255) ∧
  (2 ≤ op → op ≤ 9 → (0 ≤ bits .or .u8 ((op - 2) * 8) 0 ∧ bits .or .u8 ((op - 2) * 8) 0 ≤ 255) ∧ (0 ≤ bits .or .u8 ((op - 2) * 8) 1 ∧ bits .or .u8 ((op - 2) * 8) 1 ≤ 255) ∧ (0 ≤ bits .or .u8 ((op - 2) * 8) 2 ∧ bits .or .u8 ((op - 2) * 8) 2 ≤ 255) ∧ (0 ≤ bits .or .u8 ((op - 2) * 8) 4 ∧ bits .or .u8 ((op - 2) * 8) 4 ≤ 255))
theorem or_range2 (k x : Int) (hk : 0 ≤ k ∧ k ≤ 255) (h0 : 0 ≤ x) (h1 : x ≤ 255) : 0 ≤ bits .or .u8 k x ∧ bits .or .u8 k x ≤ 255 := or_range k x hk h0 h1
theorem M2.of (op d s : Int) : M2 op d s := by
  have hnd := numS_range d
  have hns := numS_range s
  refine ⟨rmS_range _ _ hns.1 hns.2 hnd.1 hnd.2, memS_range (numS d) 7 hnd.1 hnd.2 (by omega) (by omega), fun h0 h1 => rmS_range _ _ (by omega) (by omega) hnd.1 hnd.2, fun h0 h1 => ⟨?_, ?_, ?_, ?_⟩⟩
  all_goals exact or_range _ _ (by omega) (by omega) (by omega)

theorem two_A_8_8 (op d s : Int) (w : World) (o1 : op = 1) (hwd : wideS d = 8) (hws : wideS s = 8) (d1 : 1 ≤ d) (d2 : d ≤ 8) (s1 : 1 ≤ s) (s2 : s ≤ 8) : Calls Tryz.prog 157 #[.int .i64 op, .int .i64 d, .int .i64 s] w (RHead w (twoS op d s)) := by
  have hnd := numS_range d
  have hns := numS_range s
  have MM := Lib.hid (M2.of op d s)
  unfold M2 at MM
  have HWD := Lib.hid hwd; have HWS := Lib.hid hws
  clear hwd hws
  have e9 : (d == 9) = false := by simp; omega
  have e17 : (d == 17) = false := by simp; omega
  have e18 : (d == 18) = false := by simp; omega
  have e19 : (d == 19) = false := by simp; omega
  have e20 : (d == 20) = false := by simp; omega
  have g9 : (s == 9) = false := by simp; omega
  have g17 : (s == 17) = false := by simp; omega
  have g18 : (s == 18) = false := by simp; omega
  have g19 : (s == 19) = false := by simp; omega
  have g20 : (s == 20) = false := by simp; omega
  have ne9 : (d != 9) = true := by simp; omega
  have ng9 : (s != 9) = true := by simp; omega
  subst o1
  go_enter Tryz.func157, Tryz.ntmps157
  go_wp2_with (first
    | (go_at_call 191; ((with_reducible refine (wide_any _ _).mono ?_); (first | rw [HWD.out] | rw [HWS.out] | rw [show wideS 1 = 8 from rfl] | rw [show wideS 9 = 16 from rfl] | rw [show wideS 17 = 0 from rfl] | rw [show wideS 18 = 0 from rfl] | rw [show wideS 19 = 0 from rfl] | rw [show wideS 20 = 0 from rfl]); rintro e w' ⟨rfl, rfl⟩))
    | (go_at_call 193; ((with_reducible refine (num_any _ (by omega) (by omega) _).mono ?_); rintro e w' ⟨rfl, rfl⟩))
    | (go_at_call 195; ((with_reducible refine (mem_any _ _ (by omega) (by omega) _).mono ?_); rintro e w' ⟨rfl, rfl⟩))
    | (go_at_call 192; ((with_reducible refine (rm_any _ _ (by omega) (by omega) _).mono ?_); rintro e w' ⟨rfl, rfl⟩))
    | (go_at_call 194; ((with_reducible refine (places_any _ _ _).mono ?_); rintro e w1 ⟨A, c, rfl, hby, hx1⟩; have B0 := (Blk.new w #[.slice none 0 0, .int .i64 0] 137).ext hx1; have k0 := B0.cell; have f0 := B0.frozen))
    | (go_at_call 159; ((with_reducible refine (of159_any _ _ _ _ _).mono ?_); rintro e w1 ⟨rfl, hx1⟩; have B0 := ((Blk.new w #[.slice none 0 0, .int .i64 0] 137).alloc _).ext hx1; have k0 := B0.cell; have f0 := B0.frozen)))
  all_goals first
    | (refine bodyPost_ret (res1 rfl _ _ _ w.heap.size _ rfl (load137 ((B0.put 0 _).put 1 _))) rfl (head_end2 (w.alloc (.cells #[.slice none 0 0, .int .i64 0] 137)) _ _ ?_ ?_ ?_ ((Ext.refl w).alloc _) (by simp) (by simp) hx1) <;> clear hx1 B0 k0 f0
       · simp only [beq_iff_eq, beq_eq_false_iff_ne, bne_iff_ne, bne_eq_false_iff_eq] at *
         subst_vars
         unfold twoS wS
         rw [HWD.out, HWS.out]
         repeat (first | rw [if_pos (by omega)] | rw [if_neg (by omega)])
         all_goals rfl
       · have M := MM.out
         subst_vars
         first | omega | decide
       · have M := MM.out
         subst_vars
         first | omega | decide)
    | (refine bodyPost_ret (res1 rfl _ _ _ w.heap.size _ rfl (load137 ((B0.put 0 _).put 1 _))) rfl (head_end1 (w.alloc (.cells #[.slice none 0 0, .int .i64 0] 137)) _ _ ?_ ?_ ((Ext.refl w).alloc _) (by simp) (by simp) hx1) <;> clear hx1 B0 k0 f0
       · simp only [beq_iff_eq, beq_eq_false_iff_ne, bne_iff_ne, bne_eq_false_iff_eq] at *
         subst_vars
         unfold twoS wS
         rw [HWD.out, HWS.out]
         repeat (first | rw [if_pos (by omega)] | rw [if_neg (by omega)])
         all_goals rfl
       · have M := MM.out
         subst_vars
         omega)
    | (refine bodyPost_ret (res1 rfl _ _ _ w.heap.size _ rfl (load137 ((B0.put 0 _).put 1 _))) rfl (RHead.pass ?_ B0 hby (((Ext.refl w).alloc _).trans hx1)) <;> clear hx1 B0 k0 f0 hby
       simp only [beq_iff_eq, beq_eq_false_iff_ne, bne_iff_ne, bne_eq_false_iff_eq] at *
       subst_vars
       unfold twoS wS
       rw [HWD.out, HWS.out]
       repeat (first | rw [if_pos (by omega)] | rw [if_neg (by omega)])
       all_goals rfl)
    | (refine bodyPost_ret (res1 rfl _ _ _ w.heap.size _ rfl (load137 (c0 := .slice none 0 0) (c1 := .int .i64 0) (Blk.new w _ 137))) rfl (RHead.mk (l := []) (n := 0) (t := 0) ?_ rfl (Byts.nil _) ((Ext.refl _).alloc _))
       simp only [beq_iff_eq, beq_eq_false_iff_ne, bne_iff_ne, bne_eq_false_iff_eq] at *
       subst_vars
       unfold twoS wS
       rw [HWD.out, HWS.out]
       repeat (first | rw [if_pos (by omega)] | rw [if_neg (by omega)])
       all_goals rfl)
theorem two_A_8_16 (op d s : Int) (w : World) (o1 : op = 1) (hwd : wideS d = 8) (hws : wideS s = 16) (d1 : 1 ≤ d) (d2 : d ≤ 8) (s1 : 9 ≤ s) (s2 : s ≤ 16) : Calls Tryz.prog 157 #[.int .i64 op, .int .i64 d, .int .i64 s] w (RHead w (twoS op d s)) := by
  have hnd := numS_range d
  have hns := numS_range s
  have MM := Lib.hid (M2.of op d s)
  unfold M2 at MM
  have HWD := Lib.hid hwd; have HWS := Lib.hid hws
  clear hwd hws
  have e9 : (d == 9) = false := by simp; omega
  have e17 : (d == 17) = false := by simp; omega
  have e18 : (d == 18) = false := by simp; omega
  have e19 : (d == 19) = false := by simp; omega
  have e20 : (d == 20) = false := by simp; omega
  have g1 : (s == 1) = false := by simp; omega
  have g17 : (s == 17) = false := by simp; omega
  have g18 : (s == 18) = false := by simp; omega
  have g19 : (s == 19) = false := by simp; omega
  have g20 : (s == 20) = false := by simp; omega
  have ne9 : (d != 9) = true := by simp; omega
  subst o1
  go_enter Tryz.func157, Tryz.ntmps157
  go_wp2_with (first
    | (go_at_call 191; ((with_reducible refine (wide_any _ _).mono ?_); (first | rw [HWD.out] | rw [HWS.out] | rw [show wideS 1 = 8 from rfl] | rw [show wideS 9 = 16 from rfl] | rw [show wideS 17 = 0 from rfl] | rw [show wideS 18 = 0 from rfl] | rw [show wideS 19 = 0 from rfl] | rw [show wideS 20 = 0 from rfl]); rintro e w' ⟨rfl, rfl⟩))
    | (go_at_call 193; ((with_reducible refine (num_any _ (by omega) (by omega) _).mono ?_); rintro e w' ⟨rfl, rfl⟩))
    | (go_at_call 195; ((with_reducible refine (mem_any _ _ (by omega) (by omega) _).mono ?_); rintro e w' ⟨rfl, rfl⟩))
    | (go_at_call 192; ((with_reducible refine (rm_any _ _ (by omega) (by omega) _).mono ?_); rintro e w' ⟨rfl, rfl⟩))
    | (go_at_call 194; ((with_reducible refine (places_any _ _ _).mono ?_); rintro e w1 ⟨A, c, rfl, hby, hx1⟩; have B0 := (Blk.new w #[.slice none 0 0, .int .i64 0] 137).ext hx1; have k0 := B0.cell; have f0 := B0.frozen))
    | (go_at_call 159; ((with_reducible refine (of159_any _ _ _ _ _).mono ?_); rintro e w1 ⟨rfl, hx1⟩; have B0 := ((Blk.new w #[.slice none 0 0, .int .i64 0] 137).alloc _).ext hx1; have k0 := B0.cell; have f0 := B0.frozen)))
  all_goals first
    | (refine bodyPost_ret (res1 rfl _ _ _ w.heap.size _ rfl (load137 ((B0.put 0 _).put 1 _))) rfl (head_end2 (w.alloc (.cells #[.slice none 0 0, .int .i64 0] 137)) _ _ ?_ ?_ ?_ ((Ext.refl w).alloc _) (by simp) (by simp) hx1) <;> clear hx1 B0 k0 f0
       · simp only [beq_iff_eq, beq_eq_false_iff_ne, bne_iff_ne, bne_eq_false_iff_eq] at *
         subst_vars
         unfold twoS wS
         rw [HWD.out, HWS.out]
         repeat (first | rw [if_pos (by omega)] | rw [if_neg (by omega)])
         all_goals rfl
       · have M := MM.out
         subst_vars
         first | omega | decide
       · have M := MM.out
         subst_vars
         first | omega | decide)
    | (refine bodyPost_ret (res1 rfl _ _ _ w.heap.size _ rfl (load137 ((B0.put 0 _).put 1 _))) rfl (head_end1 (w.alloc (.cells #[.slice none 0 0, .int .i64 0] 137)) _ _ ?_ ?_ ((Ext.refl w).alloc _) (by simp) (by simp) hx1) <;> clear hx1 B0 k0 f0
       · simp only [beq_iff_eq, beq_eq_false_iff_ne, bne_iff_ne, bne_eq_false_iff_eq] at *
         subst_vars
         unfold twoS wS
         rw [HWD.out, HWS.out]
         repeat (first | rw [if_pos (by omega)] | rw [if_neg (by omega)])
         all_goals rfl
       · have M := MM.out
         subst_vars
         omega)
    | (refine bodyPost_ret (res1 rfl _ _ _ w.heap.size _ rfl (load137 ((B0.put 0 _).put 1 _))) rfl (RHead.pass ?_ B0 hby (((Ext.refl w).alloc _).trans hx1)) <;> clear hx1 B0 k0 f0 hby
       simp only [beq_iff_eq, beq_eq_false_iff_ne, bne_iff_ne, bne_eq_false_iff_eq] at *
       subst_vars
       unfold twoS wS
       rw [HWD.out, HWS.out]
       repeat (first | rw [if_pos (by omega)] | rw [if_neg (by omega)])
       all_goals rfl)
    | (refine bodyPost_ret (res1 rfl _ _ _ w.heap.size _ rfl (load137 (c0 := .slice none 0 0) (c1 := .int .i64 0) (Blk.new w _ 137))) rfl (RHead.mk (l := []) (n := 0) (t := 0) ?_ rfl (Byts.nil _) ((Ext.refl _).alloc _))
       simp only [beq_iff_eq, beq_eq_false_iff_ne, bne_iff_ne, bne_eq_false_iff_eq] at *
       subst_vars
       unfold twoS wS
       rw [HWD.out, HWS.out]
       repeat (first | rw [if_pos (by omega)] | rw [if_neg (by omega)])
       all_goals rfl)
theorem two_A_8_0 (op d s : Int) (w : World) (o1 : op = 1) (hwd : wideS d = 8) (hws : wideS s = 0) (d1 : 1 ≤ d) (d2 : d ≤ 8) (s1 : s < 1 ∨ 16 < s) : Calls Tryz.prog 157 #[.int .i64 op, .int .i64 d, .int .i64 s] w (RHead w (twoS op d s)) := by
  have hnd := numS_range d
  have hns := numS_range s
  have MM := Lib.hid (M2.of op d s)
  unfold M2 at MM
  have HWD := Lib.hid hwd; have HWS := Lib.hid hws
  clear hwd hws
  have e9 : (d == 9) = false := by simp; omega
  have e17 : (d == 17) = false := by simp; omega
  have e18 : (d == 18) = false := by simp; omega
  have e19 : (d == 19) = false := by simp; omega
  have e20 : (d == 20) = false := by simp; omega
  have g1 : (s == 1) = false := by simp; omega
  have g9 : (s == 9) = false := by simp; omega
  have ne9 : (d != 9) = true := by simp; omega
  have ng9 : (s != 9) = true := by simp; omega
  subst o1
  go_enter Tryz.func157, Tryz.ntmps157
  go_wp2_with (first
    | (go_at_call 191; ((with_reducible refine (wide_any _ _).mono ?_); (first | rw [HWD.out] | rw [HWS.out] | rw [show wideS 1 = 8 from rfl] | rw [show wideS 9 = 16 from rfl] | rw [show wideS 17 = 0 from rfl] | rw [show wideS 18 = 0 from rfl] | rw [show wideS 19 = 0 from rfl] | rw [show wideS 20 = 0 from rfl]); rintro e w' ⟨rfl, rfl⟩))
    | (go_at_call 193; ((with_reducible refine (num_any _ (by omega) (by omega) _).mono ?_); rintro e w' ⟨rfl, rfl⟩))
    | (go_at_call 195; ((with_reducible refine (mem_any _ _ (by omega) (by omega) _).mono ?_); rintro e w' ⟨rfl, rfl⟩))
    | (go_at_call 192; ((with_reducible refine (rm_any _ _ (by omega) (by omega) _).mono ?_); rintro e w' ⟨rfl, rfl⟩))
    | (go_at_call 194; ((with_reducible refine (places_any _ _ _).mono ?_); rintro e w1 ⟨A, c, rfl, hby, hx1⟩; have B0 := (Blk.new w #[.slice none 0 0, .int .i64 0] 137).ext hx1; have k0 := B0.cell; have f0 := B0.frozen))
    | (go_at_call 159; ((with_reducible refine (of159_any _ _ _ _ _).mono ?_); rintro e w1 ⟨rfl, hx1⟩; have B0 := ((Blk.new w #[.slice none 0 0, .int .i64 0] 137).alloc _).ext hx1; have k0 := B0.cell; have f0 := B0.frozen)))
  all_goals first
    | (refine bodyPost_ret (res1 rfl _ _ _ w.heap.size _ rfl (load137 ((B0.put 0 _).put 1 _))) rfl (head_end2 (w.alloc (.cells #[.slice none 0 0, .int .i64 0] 137)) _ _ ?_ ?_ ?_ ((Ext.refl w).alloc _) (by simp) (by simp) hx1) <;> clear hx1 B0 k0 f0
       · simp only [beq_iff_eq, beq_eq_false_iff_ne, bne_iff_ne, bne_eq_false_iff_eq] at *
         subst_vars
         unfold twoS wS
         rw [HWD.out, HWS.out]
         repeat (first | rw [if_pos (by omega)] | rw [if_neg (by omega)])
         all_goals rfl
       · have M := MM.out
         subst_vars
         first | omega | decide
       · have M := MM.out
         subst_vars
         first | omega | decide)
    | (refine bodyPost_ret (res1 rfl _ _ _ w.heap.size _ rfl (load137 ((B0.put 0 _).put 1 _))) rfl (head_end1 (w.alloc (.cells #[.slice none 0 0, .int .i64 0] 137)) _ _ ?_ ?_ ((Ext.refl w).alloc _) (by simp) (by simp) hx1) <;> clear hx1 B0 k0 f0
       · simp only [beq_iff_eq, beq_eq_false_iff_ne, bne_iff_ne, bne_eq_false_iff_eq] at *
         subst_vars
         unfold twoS wS
         rw [HWD.out, HWS.out]
         repeat (first | rw [if_pos (by omega)] | rw [if_neg (by omega)])
         all_goals rfl
       · have M := MM.out
         subst_vars
         omega)
    | (refine bodyPost_ret (res1 rfl _ _ _ w.heap.size _ rfl (load137 ((B0.put 0 _).put 1 _))) rfl (RHead.pass ?_ B0 hby (((Ext.refl w).alloc _).trans hx1)) <;> clear hx1 B0 k0 f0 hby
       simp only [beq_iff_eq, beq_eq_false_iff_ne, bne_iff_ne, bne_eq_false_iff_eq] at *
       subst_vars
       unfold twoS wS
       rw [HWD.out, HWS.out]
       repeat (first | rw [if_pos (by omega)] | rw [if_neg (by omega)])
       all_goals rfl)
    | (refine bodyPost_ret (res1 rfl _ _ _ w.heap.size _ rfl (load137 (c0 := .slice none 0 0) (c1 := .int .i64 0) (Blk.new w _ 137))) rfl (RHead.mk (l := []) (n := 0) (t := 0) ?_ rfl (Byts.nil _) ((Ext.refl _).alloc _))
       simp only [beq_iff_eq, beq_eq_false_iff_ne, bne_iff_ne, bne_eq_false_iff_eq] at *
       subst_vars
       unfold twoS wS
       rw [HWD.out, HWS.out]
       repeat (first | rw [if_pos (by omega)] | rw [if_neg (by omega)])
       all_goals rfl)
theorem two_A_16_8 (op d s : Int) (w : World) (o1 : op = 1) (hwd : wideS d = 16) (hws : wideS s = 8) (d1 : 9 ≤ d) (d2 : d ≤ 16) (s1 : 1 ≤ s) (s2 : s ≤ 8) : Calls Tryz.prog 157 #[.int .i64 op, .int .i64 d, .int .i64 s] w (RHead w (twoS op d s)) := by
  have hnd := numS_range d
  have hns := numS_range s
  have MM := Lib.hid (M2.of op d s)
  unfold M2 at MM
  have HWD := Lib.hid hwd; have HWS := Lib.hid hws
  clear hwd hws
  have e1 : (d == 1) = false := by simp; omega
  have e17 : (d == 17) = false := by simp; omega
  have e18 : (d == 18) = false := by simp; omega
  have e19 : (d == 19) = false := by simp; omega
  have e20 : (d == 20) = false := by simp; omega
  have g9 : (s == 9) = false := by simp; omega
  have g17 : (s == 17) = false := by simp; omega
  have g18 : (s == 18) = false := by simp; omega
  have g19 : (s == 19) = false := by simp; omega
  have g20 : (s == 20) = false := by simp; omega
  have ng9 : (s != 9) = true := by simp; omega
  subst o1
  go_enter Tryz.func157, Tryz.ntmps157
  go_wp2_with (first
    | (go_at_call 191; ((with_reducible refine (wide_any _ _).mono ?_); (first | rw [HWD.out] | rw [HWS.out] | rw [show wideS 1 = 8 from rfl] | rw [show wideS 9 = 16 from rfl] | rw [show wideS 17 = 0 from rfl] | rw [show wideS 18 = 0 from rfl] | rw [show wideS 19 = 0 from rfl] | rw [show wideS 20 = 0 from rfl]); rintro e w' ⟨rfl, rfl⟩))
    | (go_at_call 193; ((with_reducible refine (num_any _ (by omega) (by omega) _).mono ?_); rintro e w' ⟨rfl, rfl⟩))
    | (go_at_call 195; ((with_reducible refine (mem_any _ _ (by omega) (by omega) _).mono ?_); rintro e w' ⟨rfl, rfl⟩))
    | (go_at_call 192; ((with_reducible refine (rm_any _ _ (by omega) (by omega) _).mono ?_); rintro e w' ⟨rfl, rfl⟩))
    | (go_at_call 194; ((with_reducible refine (places_any _ _ _).mono ?_); rintro e w1 ⟨A, c, rfl, hby, hx1⟩; have B0 := (Blk.new w #[.slice none 0 0, .int .i64 0] 137).ext hx1; have k0 := B0.cell; have f0 := B0.frozen))
    | (go_at_call 159; ((with_reducible refine (of159_any _ _ _ _ _).mono ?_); rintro e w1 ⟨rfl, hx1⟩; have B0 := ((Blk.new w #[.slice none 0 0, .int .i64 0] 137).alloc _).ext hx1; have k0 := B0.cell; have f0 := B0.frozen)))
  all_goals first
    | (refine bodyPost_ret (res1 rfl _ _ _ w.heap.size _ rfl (load137 ((B0.put 0 _).put 1 _))) rfl (head_end2 (w.alloc (.cells #[.slice none 0 0, .int .i64 0] 137)) _ _ ?_ ?_ ?_ ((Ext.refl w).alloc _) (by simp) (by simp) hx1) <;> clear hx1 B0 k0 f0
       · simp only [beq_iff_eq, beq_eq_false_iff_ne, bne_iff_ne, bne_eq_false_iff_eq] at *
         subst_vars
         unfold twoS wS
         rw [HWD.out, HWS.out]
         repeat (first | rw [if_pos (by omega)] | rw [if_neg (by omega)])
         all_goals rfl
       · have M := MM.out
         subst_vars
         first | omega | decide
       · have M := MM.out
         subst_vars
         first | omega | decide)
    | (refine bodyPost_ret (res1 rfl _ _ _ w.heap.size _ rfl (load137 ((B0.put 0 _).put 1 _))) rfl (head_end1 (w.alloc (.cells #[.slice none 0 0, .int .i64 0] 137)) _ _ ?_ ?_ ((Ext.refl w).alloc _) (by simp) (by simp) hx1) <;> clear hx1 B0 k0 f0
       · simp only [beq_iff_eq, beq_eq_false_iff_ne, bne_iff_ne, bne_eq_false_iff_eq] at *
         subst_vars
         unfold twoS wS
         rw [HWD.out, HWS.out]
         repeat (first | rw [if_pos (by omega)] | rw [if_neg (by omega)])
         all_goals rfl
       · have M := MM.out
         subst_vars
         omega)
    | (refine bodyPost_ret (res1 rfl _ _ _ w.heap.size _ rfl (load137 ((B0.put 0 _).put 1 _))) rfl (RHead.pass ?_ B0 hby (((Ext.refl w).alloc _).trans hx1)) <;> clear hx1 B0 k0 f0 hby
       simp only [beq_iff_eq, beq_eq_false_iff_ne, bne_iff_ne, bne_eq_false_iff_eq] at *
       subst_vars
       unfold twoS wS
       rw [HWD.out, HWS.out]
       repeat (first | rw [if_pos (by omega)] | rw [if_neg (by omega)])
       all_goals rfl)
    | (refine bodyPost_ret (res1 rfl _ _ _ w.heap.size _ rfl (load137 (c0 := .slice none 0 0) (c1 := .int .i64 0) (Blk.new w _ 137))) rfl (RHead.mk (l := []) (n := 0) (t := 0) ?_ rfl (Byts.nil _) ((Ext.refl _).alloc _))
       simp only [beq_iff_eq, beq_eq_false_iff_ne, bne_iff_ne, bne_eq_false_iff_eq] at *
       subst_vars
       unfold twoS wS
       rw [HWD.out, HWS.out]
       repeat (first | rw [if_pos (by omega)] | rw [if_neg (by omega)])
       all_goals rfl)
theorem two_A_16_16 (op d s : Int) (w : World) (o1 : op = 1) (hwd : wideS d = 16) (hws : wideS s = 16) (d1 : 9 ≤ d) (d2 : d ≤ 16) (s1 : 9 ≤ s) (s2 : s ≤ 16) : Calls Tryz.prog 157 #[.int .i64 op, .int .i64 d, .int .i64 s] w (RHead w (twoS op d s)) := by
  have hnd := numS_range d
  have hns := numS_range s
  have MM := Lib.hid (M2.of op d s)
  unfold M2 at MM
  have HWD := Lib.hid hwd; have HWS := Lib.hid hws
  clear hwd hws
  have e1 : (d == 1) = false := by simp; omega
  have e17 : (d == 17) = false := by simp; omega
  have e18 : (d == 18) = false := by simp; omega
  have e19 : (d == 19) = false := by simp; omega
  have e20 : (d == 20) = false := by simp; omega
  have g1 : (s == 1) = false := by simp; omega
  have g17 : (s == 17) = false := by simp; omega
  have g18 : (s == 18) = false := by simp; omega
  have g19 : (s == 19) = false := by simp; omega
  have g20 : (s == 20) = false := by simp; omega
  subst o1
  go_enter Tryz.func157, Tryz.ntmps157
  go_wp2_with (first
    | (go_at_call 191; ((with_reducible refine (wide_any _ _).mono ?_); (first | rw [HWD.out] | rw [HWS.out] | rw [show wideS 1 = 8 from rfl] | rw [show wideS 9 = 16 from rfl] | rw [show wideS 17 = 0 from rfl] | rw [show wideS 18 = 0 from rfl] | rw [show wideS 19 = 0 from rfl] | rw [show wideS 20 = 0 from rfl]); rintro e w' ⟨rfl, rfl⟩))
    | (go_at_call 193; ((with_reducible refine (num_any _ (by omega) (by omega) _).mono ?_); rintro e w' ⟨rfl, rfl⟩))
    | (go_at_call 195; ((with_reducible refine (mem_any _ _ (by omega) (by omega) _).mono ?_); rintro e w' ⟨rfl, rfl⟩))
    | (go_at_call 192; ((with_reducible refine (rm_any _ _ (by omega) (by omega) _).mono ?_); rintro e w' ⟨rfl, rfl⟩))
    | (go_at_call 194; ((with_reducible refine (places_any _ _ _).mono ?_); rintro e w1 ⟨A, c, rfl, hby, hx1⟩; have B0 := (Blk.new w #[.slice none 0 0, .int .i64 0] 137).ext hx1; have k0 := B0.cell; have f0 := B0.frozen))
    | (go_at_call 159; ((with_reducible refine (of159_any _ _ _ _ _).mono ?_); rintro e w1 ⟨rfl, hx1⟩; have B0 := ((Blk.new w #[.slice none 0 0, .int .i64 0] 137).alloc _).ext hx1; have k0 := B0.cell; have f0 := B0.frozen)))
  all_goals first
    | (refine bodyPost_ret (res1 rfl _ _ _ w.heap.size _ rfl (load137 ((B0.put 0 _).put 1 _))) rfl (head_end2 (w.alloc (.cells #[.slice none 0 0, .int .i64 0] 137)) _ _ ?_ ?_ ?_ ((Ext.refl w).alloc _) (by simp) (by simp) hx1) <;> clear hx1 B0 k0 f0
       · simp only [beq_iff_eq, beq_eq_false_iff_ne, bne_iff_ne, bne_eq_false_iff_eq] at *
         subst_vars
         unfold twoS wS
         rw [HWD.out, HWS.out]
         repeat (first | rw [if_pos (by omega)] | rw [if_neg (by omega)])
         all_goals rfl
       · have M := MM.out
         subst_vars
         first | omega | decide
       · have M := MM.out
         subst_vars
         first | omega | decide)
    | (refine bodyPost_ret (res1 rfl _ _ _ w.heap.size _ rfl (load137 ((B0.put 0 _).put 1 _))) rfl (head_end1 (w.alloc (.cells #[.slice none 0 0, .int .i64 0] 137)) _ _ ?_ ?_ ((Ext.refl w).alloc _) (by simp) (by simp) hx1) <;> clear hx1 B0 k0 f0
       · simp only [beq_iff_eq, beq_eq_false_iff_ne, bne_iff_ne, bne_eq_false_iff_eq] at *
         subst_vars
         unfold twoS wS
         rw [HWD.out, HWS.out]
         repeat (first | rw [if_pos (by omega)] | rw [if_neg (by omega)])
         all_goals rfl
       · have M := MM.out
         subst_vars
         omega)
    | (refine bodyPost_ret (res1 rfl _ _ _ w.heap.size _ rfl (load137 ((B0.put 0 _).put 1 _))) rfl (RHead.pass ?_ B0 hby (((Ext.refl w).alloc _).trans hx1)) <;> clear hx1 B0 k0 f0 hby
       simp only [beq_iff_eq, beq_eq_false_iff_ne, bne_iff_ne, bne_eq_false_iff_eq] at *
       subst_vars
       unfold twoS wS
       rw [HWD.out, HWS.out]
       repeat (first | rw [if_pos (by omega)] | rw [if_neg (by omega)])
       all_goals rfl)
    | (refine bodyPost_ret (res1 rfl _ _ _ w.heap.size _ rfl (load137 (c0 := .slice none 0 0) (c1 := .int .i64 0) (Blk.new w _ 137))) rfl (RHead.mk (l := []) (n := 0) (t := 0) ?_ rfl (Byts.nil _) ((Ext.refl _).alloc _))
       simp only [beq_iff_eq, beq_eq_false_iff_ne, bne_iff_ne, bne_eq_false_iff_eq] at *
       subst_vars
       unfold twoS wS
       rw [HWD.out, HWS.out]
       repeat (first | rw [if_pos (by omega)] | rw [if_neg (by omega)])
       all_goals rfl)
theorem two_A_16_0 (op d s : Int) (w : World) (o1 : op = 1) (hwd : wideS d = 16) (hws : wideS s = 0) (d1 : 9 ≤ d) (d2 : d ≤ 16) (s1 : s < 1 ∨ 16 < s) : Calls Tryz.prog 157 #[.int .i64 op, .int .i64 d, .int .i64 s] w (RHead w (twoS op d s)) := by
  have hnd := numS_range d
  have hns := numS_range s
  have MM := Lib.hid (M2.of op d s)
  unfold M2 at MM
  have HWD := Lib.hid hwd; have HWS := Lib.hid hws
  clear hwd hws
  have e1 : (d == 1) = false := by simp; omega
  have e17 : (d == 17) = false := by simp; omega
  have e18 : (d == 18) = false := by simp; omega
  have e19 : (d == 19) = false := by simp; omega
  have e20 : (d == 20) = false := by simp; omega
  have g1 : (s == 1) = false := by simp; omega
  have g9 : (s == 9) = false := by simp; omega
  have ng9 : (s != 9) = true := by simp; omega
  subst o1
  go_enter Tryz.func157, Tryz.ntmps157
  go_wp2_with (first
    | (go_at_call 191; ((with_reducible refine (wide_any _ _).mono ?_); (first | rw [HWD.out] | rw [HWS.out] | rw [show wideS 1 = 8 from rfl] | rw [show wideS 9 = 16 from rfl] | rw [show wideS 17 = 0 from rfl] | rw [show wideS 18 = 0 from rfl] | rw [show wideS 19 = 0 from rfl] | rw [show wideS 20 = 0 from rfl]); rintro e w' ⟨rfl, rfl⟩))
    | (go_at_call 193; ((with_reducible refine (num_any _ (by omega) (by omega) _).mono ?_); rintro e w' ⟨rfl, rfl⟩))
    | (go_at_call 195; ((with_reducible refine (mem_any _ _ (by omega) (by omega) _).mono ?_); rintro e w' ⟨rfl, rfl⟩))
    | (go_at_call 192; ((with_reducible refine (rm_any _ _ (by omega) (by omega) _).mono ?_); rintro e w' ⟨rfl, rfl⟩))
    | (go_at_call 194; ((with_reducible refine (places_any _ _ _).mono ?_); rintro e w1 ⟨A, c, rfl, hby, hx1⟩; have B0 := (Blk.new w #[.slice none 0 0, .int .i64 0] 137).ext hx1; have k0 := B0.cell; have f0 := B0.frozen))
    | (go_at_call 159; ((with_reducible refine (of159_any _ _ _ _ _).mono ?_); rintro e w1 ⟨rfl, hx1⟩; have B0 := ((Blk.new w #[.slice none 0 0, .int .i64 0] 137).alloc _).ext hx1; have k0 := B0.cell; have f0 := B0.frozen)))
  all_goals first
    | (refine bodyPost_ret (res1 rfl _ _ _ w.heap.size _ rfl (load137 ((B0.put 0 _).put 1 _))) rfl (head_end2 (w.alloc (.cells #[.slice none 0 0, .int .i64 0] 137)) _ _ ?_ ?_ ?_ ((Ext.refl w).alloc _) (by simp) (by simp) hx1) <;> clear hx1 B0 k0 f0
       · simp only [beq_iff_eq, beq_eq_false_iff_ne, bne_iff_ne, bne_eq_false_iff_eq] at *
         subst_vars
         unfold twoS wS
         rw [HWD.out, HWS.out]
         repeat (first | rw [if_pos (by omega)] | rw [if_neg (by omega)])
         all_goals rfl
       · have M := MM.out
         subst_vars
         first | omega | decide
       · have M := MM.out
         subst_vars
         first | omega | decide)
    | (refine bodyPost_ret (res1 rfl _ _ _ w.heap.size _ rfl (load137 ((B0.put 0 _).put 1 _))) rfl (head_end1 (w.alloc (.cells #[.slice none 0 0, .int .i64 0] 137)) _ _ ?_ ?_ ((Ext.refl w).alloc _) (by simp) (by simp) hx1) <;> clear hx1 B0 k0 f0
       · simp only [beq_iff_eq, beq_eq_false_iff_ne, bne_iff_ne, bne_eq_false_iff_eq] at *
         subst_vars
         unfold twoS wS
         rw [HWD.out, HWS.out]
         repeat (first | rw [if_pos (by omega)] | rw [if_neg (by omega)])
         all_goals rfl
       · have M := MM.out
         subst_vars
         omega)
    | (refine bodyPost_ret (res1 rfl _ _ _ w.heap.size _ rfl (load137 ((B0.put 0 _).put 1 _))) rfl (RHead.pass ?_ B0 hby (((Ext.refl w).alloc _).trans hx1)) <;> clear hx1 B0 k0 f0 hby
       simp only [beq_iff_eq, beq_eq_false_iff_ne, bne_iff_ne, bne_eq_false_iff_eq] at *
       subst_vars
       unfold twoS wS
       rw [HWD.out, HWS.out]
       repeat (first | rw [if_pos (by omega)] | rw [if_neg (by omega)])
       all_goals rfl)
    | (refine bodyPost_ret (res1 rfl _ _ _ w.heap.size _ rfl (load137 (c0 := .slice none 0 0) (c1 := .int .i64 0) (Blk.new w _ 137))) rfl (RHead.mk (l := []) (n := 0) (t := 0) ?_ rfl (Byts.nil _) ((Ext.refl _).alloc _))
       simp only [beq_iff_eq, beq_eq_false_iff_ne, bne_iff_ne, bne_eq_false_iff_eq] at *
       subst_vars
       unfold twoS wS
       rw [HWD.out, HWS.out]
       repeat (first | rw [if_pos (by omega)] | rw [if_neg (by omega)])
       all_goals rfl)
theorem two_A_0_8 (op d s : Int) (w : World) (o1 : op = 1) (hwd : wideS d = 0) (hws : wideS s = 8) (d1 : d < 1 ∨ 16 < d) (s1 : 1 ≤ s) (s2 : s ≤ 8) : Calls Tryz.prog 157 #[.int .i64 op, .int .i64 d, .int .i64 s] w (RHead w (twoS op d s)) := by
  have hnd := numS_range d
  have hns := numS_range s
  have MM := Lib.hid (M2.of op d s)
  unfold M2 at MM
  have HWD := Lib.hid hwd; have HWS := Lib.hid hws
  clear hwd hws
  have e1 : (d == 1) = false := by simp; omega
  have e9 : (d == 9) = false := by simp; omega
  have g9 : (s == 9) = false := by simp; omega
  have g17 : (s == 17) = false := by simp; omega
  have g18 : (s == 18) = false := by simp; omega
  have g19 : (s == 19) = false := by simp; omega
  have g20 : (s == 20) = false := by simp; omega
  have ne9 : (d != 9) = true := by simp; omega
  have ng9 : (s != 9) = true := by simp; omega
  subst o1
  go_enter Tryz.func157, Tryz.ntmps157
  go_wp2_with (first
    | (go_at_call 191; ((with_reducible refine (wide_any _ _).mono ?_); (first | rw [HWD.out] | rw [HWS.out] | rw [show wideS 1 = 8 from rfl] | rw [show wideS 9 = 16 from rfl] | rw [show wideS 17 = 0 from rfl] | rw [show wideS 18 = 0 from rfl] | rw [show wideS 19 = 0 from rfl] | rw [show wideS 20 = 0 from rfl]); rintro e w' ⟨rfl, rfl⟩))
    | (go_at_call 193; ((with_reducible refine (num_any _ (by omega) (by omega) _).mono ?_); rintro e w' ⟨rfl, rfl⟩))
    | (go_at_call 195; ((with_reducible refine (mem_any _ _ (by omega) (by omega) _).mono ?_); rintro e w' ⟨rfl, rfl⟩))
    | (go_at_call 192; ((with_reducible refine (rm_any _ _ (by omega) (by omega) _).mono ?_); rintro e w' ⟨rfl, rfl⟩))
    | (go_at_call 194; ((with_reducible refine (places_any _ _ _).mono ?_); rintro e w1 ⟨A, c, rfl, hby, hx1⟩; have B0 := (Blk.new w #[.slice none 0 0, .int .i64 0] 137).ext hx1; have k0 := B0.cell; have f0 := B0.frozen))
    | (go_at_call 159; ((with_reducible refine (of159_any _ _ _ _ _).mono ?_); rintro e w1 ⟨rfl, hx1⟩; have B0 := ((Blk.new w #[.slice none 0 0, .int .i64 0] 137).alloc _).ext hx1; have k0 := B0.cell; have f0 := B0.frozen)))
  all_goals first
    | (refine bodyPost_ret (res1 rfl _ _ _ w.heap.size _ rfl (load137 ((B0.put 0 _).put 1 _))) rfl (head_end2 (w.alloc (.cells #[.slice none 0 0, .int .i64 0] 137)) _ _ ?_ ?_ ?_ ((Ext.refl w).alloc _) (by simp) (by simp) hx1) <;> clear hx1 B0 k0 f0
       · simp only [beq_iff_eq, beq_eq_false_iff_ne, bne_iff_ne, bne_eq_false_iff_eq] at *
         subst_vars
         unfold twoS wS
         rw [HWD.out, HWS.out]
         repeat (first | rw [if_pos (by omega)] | rw [if_neg (by omega)])
         all_goals rfl
       · have M := MM.out
         subst_vars
         first | omega | decide
       · have M := MM.out
         subst_vars
         first | omega | decide)
    | (refine bodyPost_ret (res1 rfl _ _ _ w.heap.size _ rfl (load137 ((B0.put 0 _).put 1 _))) rfl (head_end1 (w.alloc (.cells #[.slice none 0 0, .int .i64 0] 137)) _ _ ?_ ?_ ((Ext.refl w).alloc _) (by simp) (by simp) hx1) <;> clear hx1 B0 k0 f0
       · simp only [beq_iff_eq, beq_eq_false_iff_ne, bne_iff_ne, bne_eq_false_iff_eq] at *
         subst_vars
         unfold twoS wS
         rw [HWD.out, HWS.out]
         repeat (first | rw [if_pos (by omega)] | rw [if_neg (by omega)])
         all_goals rfl
       · have M := MM.out
         subst_vars
         omega)
    | (refine bodyPost_ret (res1 rfl _ _ _ w.heap.size _ rfl (load137 ((B0.put 0 _).put 1 _))) rfl (RHead.pass ?_ B0 hby (((Ext.refl w).alloc _).trans hx1)) <;> clear hx1 B0 k0 f0 hby
       simp only [beq_iff_eq, beq_eq_false_iff_ne, bne_iff_ne, bne_eq_false_iff_eq] at *
       subst_vars
       unfold twoS wS
       rw [HWD.out, HWS.out]
       repeat (first | rw [if_pos (by omega)] | rw [if_neg (by omega)])
       all_goals rfl)
    | (refine bodyPost_ret (res1 rfl _ _ _ w.heap.size _ rfl (load137 (c0 := .slice none 0 0) (c1 := .int .i64 0) (Blk.new w _ 137))) rfl (RHead.mk (l := []) (n := 0) (t := 0) ?_ rfl (Byts.nil _) ((Ext.refl _).alloc _))
       simp only [beq_iff_eq, beq_eq_false_iff_ne, bne_iff_ne, bne_eq_false_iff_eq] at *
       subst_vars
       unfold twoS wS
       rw [HWD.out, HWS.out]
       repeat (first | rw [if_pos (by omega)] | rw [if_neg (by omega)])
       all_goals rfl)
theorem two_A_0_16 (op d s : Int) (w : World) (o1 : op = 1) (hwd : wideS d = 0) (hws : wideS s = 16) (d1 : d < 1 ∨ 16 < d) (s1 : 9 ≤ s) (s2 : s ≤ 16) : Calls Tryz.prog 157 #[.int .i64 op, .int .i64 d, .int .i64 s] w (RHead w (twoS op d s)) := by
  have hnd := numS_range d
  have hns := numS_range s
  have MM := Lib.hid (M2.of op d s)
  unfold M2 at MM
  have HWD := Lib.hid hwd; have HWS := Lib.hid hws
  clear hwd hws
  have e1 : (d == 1) = false := by simp; omega
  have e9 : (d == 9) = false := by simp; omega
  have g1 : (s == 1) = false := by simp; omega
  have g17 : (s == 17) = false := by simp; omega
  have g18 : (s == 18) = false := by simp; omega
  have g19 : (s == 19) = false := by simp; omega
  have g20 : (s == 20) = false := by simp; omega
  have ne9 : (d != 9) = true := by simp; omega
  subst o1
  go_enter Tryz.func157, Tryz.ntmps157
  go_wp2_with (first
    | (go_at_call 191; ((with_reducible refine (wide_any _ _).mono ?_); (first | rw [HWD.out] | rw [HWS.out] | rw [show wideS 1 = 8 from rfl] | rw [show wideS 9 = 16 from rfl] | rw [show wideS 17 = 0 from rfl] | rw [show wideS 18 = 0 from rfl] | rw [show wideS 19 = 0 from rfl] | rw [show wideS 20 = 0 from rfl]); rintro e w' ⟨rfl, rfl⟩))
    | (go_at_call 193; ((with_reducible refine (num_any _ (by omega) (by omega) _).mono ?_); rintro e w' ⟨rfl, rfl⟩))
    | (go_at_call 195; ((with_reducible refine (mem_any _ _ (by omega) (by omega) _).mono ?_); rintro e w' ⟨rfl, rfl⟩))
    | (go_at_call 192; ((with_reducible refine (rm_any _ _ (by omega) (by omega) _).mono ?_); rintro e w' ⟨rfl, rfl⟩))
    | (go_at_call 194; ((with_reducible refine (places_any _ _ _).mono ?_); rintro e w1 ⟨A, c, rfl, hby, hx1⟩; have B0 := (Blk.new w #[.slice none 0 0, .int .i64 0] 137).ext hx1; have k0 := B0.cell; have f0 := B0.frozen))
    | (go_at_call 159; ((with_reducible refine (of159_any _ _ _ _ _).mono ?_); rintro e w1 ⟨rfl, hx1⟩; have B0 := ((Blk.new w #[.slice none 0 0, .int .i64 0] 137).alloc _).ext hx1; have k0 := B0.cell; have f0 := B0.frozen)))
  all_goals first
    | (refine bodyPost_ret (res1 rfl _ _ _ w.heap.size _ rfl (load137 ((B0.put 0 _).put 1 _))) rfl (head_end2 (w.alloc (.cells #[.slice none 0 0, .int .i64 0] 137)) _ _ ?_ ?_ ?_ ((Ext.refl w).alloc _) (by simp) (by simp) hx1) <;> clear hx1 B0 k0 f0
       · simp only [beq_iff_eq, beq_eq_false_iff_ne, bne_iff_ne, bne_eq_false_iff_eq] at *
         subst_vars
         unfold twoS wS
         rw [HWD.out, HWS.out]
         repeat (first | rw [if_pos (by omega)] | rw [if_neg (by omega)])
         all_goals rfl
       · have M := MM.out
         subst_vars
         first | omega | decide
       · have M := MM.out
         subst_vars
         first | omega | decide)
    | (refine bodyPost_ret (res1 rfl _ _ _ w.heap.size _ rfl (load137 ((B0.put 0 _).put 1 _))) rfl (head_end1 (w.alloc (.cells #[.slice none 0 0, .int .i64 0] 137)) _ _ ?_ ?_ ((Ext.refl w).alloc _) (by simp) (by simp) hx1) <;> clear hx1 B0 k0 f0
       · simp only [beq_iff_eq, beq_eq_false_iff_ne, bne_iff_ne, bne_eq_false_iff_eq] at *
         subst_vars
         unfold twoS wS
         rw [HWD.out, HWS.out]
         repeat (first | rw [if_pos (by omega)] | rw [if_neg (by omega)])
         all_goals rfl
       · have M := MM.out
         subst_vars
         omega)
    | (refine bodyPost_ret (res1 rfl _ _ _ w.heap.size _ rfl (load137 ((B0.put 0 _).put 1 _))) rfl (RHead.pass ?_ B0 hby (((Ext.refl w).alloc _).trans hx1)) <;> clear hx1 B0 k0 f0 hby
       simp only [beq_iff_eq, beq_eq_false_iff_ne, bne_iff_ne, bne_eq_false_iff_eq] at *
       subst_vars
       unfold twoS wS
       rw [HWD.out, HWS.out]
       repeat (first | rw [if_pos (by omega)] | rw [if_neg (by omega)])
       all_goals rfl)
    | (refine bodyPost_ret (res1 rfl _ _ _ w.heap.size _ rfl (load137 (c0 := .slice none 0 0) (c1 := .int .i64 0) (Blk.new w _ 137))) rfl (RHead.mk (l := []) (n := 0) (t := 0) ?_ rfl (Byts.nil _) ((Ext.refl _).alloc _))
       simp only [beq_iff_eq, beq_eq_false_iff_ne, bne_iff_ne, bne_eq_false_iff_eq] at *
       subst_vars
       unfold twoS wS
       rw [HWD.out, HWS.out]
       repeat (first | rw [if_pos (by omega)] | rw [if_neg (by omega)])
       all_goals rfl)
theorem two_A_0_0 (op d s : Int) (w : World) (o1 : op = 1) (hwd : wideS d = 0) (hws : wideS s = 0) (d1 : d < 1 ∨ 16 < d) (s1 : s < 1 ∨ 16 < s) : Calls Tryz.prog 157 #[.int .i64 op, .int .i64 d, .int .i64 s] w (RHead w (twoS op d s)) := by
  have hnd := numS_range d
  have hns := numS_range s
  have MM := Lib.hid (M2.of op d s)
  unfold M2 at MM
  have HWD := Lib.hid hwd; have HWS := Lib.hid hws
  clear hwd hws
  have e1 : (d == 1) = false := by simp; omega
  have e9 : (d == 9) = false := by simp; omega
  have g1 : (s == 1) = false := by simp; omega
  have g9 : (s == 9) = false := by simp; omega
  have ne9 : (d != 9) = true := by simp; omega
  have ng9 : (s != 9) = true := by simp; omega
  subst o1
  go_enter Tryz.func157, Tryz.ntmps157
  go_wp2_with (first
    | (go_at_call 191; ((with_reducible refine (wide_any _ _).mono ?_); (first | rw [HWD.out] | rw [HWS.out] | rw [show wideS 1 = 8 from rfl] | rw [show wideS 9 = 16 from rfl] | rw [show wideS 17 = 0 from rfl] | rw [show wideS 18 = 0 from rfl] | rw [show wideS 19 = 0 from rfl] | rw [show wideS 20 = 0 from rfl]); rintro e w' ⟨rfl, rfl⟩))
    | (go_at_call 193; ((with_reducible refine (num_any _ (by omega) (by omega) _).mono ?_); rintro e w' ⟨rfl, rfl⟩))
    | (go_at_call 195; ((with_reducible refine (mem_any _ _ (by omega) (by omega) _).mono ?_); rintro e w' ⟨rfl, rfl⟩))
    | (go_at_call 192; ((with_reducible refine (rm_any _ _ (by omega) (by omega) _).mono ?_); rintro e w' ⟨rfl, rfl⟩))
    | (go_at_call 194; ((with_reducible refine (places_any _ _ _).mono ?_); rintro e w1 ⟨A, c, rfl, hby, hx1⟩; have B0 := (Blk.new w #[.slice none 0 0, .int .i64 0] 137).ext hx1; have k0 := B0.cell; have f0 := B0.frozen))
    | (go_at_call 159; ((with_reducible refine (of159_any _ _ _ _ _).mono ?_); rintro e w1 ⟨rfl, hx1⟩; have B0 := ((Blk.new w #[.slice none 0 0, .int .i64 0] 137).alloc _).ext hx1; have k0 := B0.cell; have f0 := B0.frozen)))
  all_goals first
    | (refine bodyPost_ret (res1 rfl _ _ _ w.heap.size _ rfl (load137 ((B0.put 0 _).put 1 _))) rfl (head_end2 (w.alloc (.cells #[.slice none 0 0, .int .i64 0] 137)) _ _ ?_ ?_ ?_ ((Ext.refl w).alloc _) (by simp) (by simp) hx1) <;> clear hx1 B0 k0 f0
       · simp only [beq_iff_eq, beq_eq_false_iff_ne, bne_iff_ne, bne_eq_false_iff_eq] at *
         subst_vars
         unfold twoS wS
         rw [HWD.out, HWS.out]
         repeat (first | rw [if_pos (by omega)] | rw [if_neg (by omega)])
         all_goals rfl
       · have M := MM.out
         subst_vars
         first | omega | decide
       · have M := MM.out
         subst_vars
         first | omega | decide)
    | (refine bodyPost_ret (res1 rfl _ _ _ w.heap.size _ rfl (load137 ((B0.put 0 _).put 1 _))) rfl (head_end1 (w.alloc (.cells #[.slice none 0 0, .int .i64 0] 137)) _ _ ?_ ?_ ((Ext.refl w).alloc _) (by simp) (by simp) hx1) <;> clear hx1 B0 k0 f0
       · simp only [beq_iff_eq, beq_eq_false_iff_ne, bne_iff_ne, bne_eq_false_iff_eq] at *
         subst_vars
         unfold twoS wS
         rw [HWD.out, HWS.out]
         repeat (first | rw [if_pos (by omega)] | rw [if_neg (by omega)])
         all_goals rfl
       · have M := MM.out
         subst_vars
         omega)
    | (refine bodyPost_ret (res1 rfl _ _ _ w.heap.size _ rfl (load137 ((B0.put 0 _).put 1 _))) rfl (RHead.pass ?_ B0 hby (((Ext.refl w).alloc _).trans hx1)) <;> clear hx1 B0 k0 f0 hby
       simp only [beq_iff_eq, beq_eq_false_iff_ne, bne_iff_ne, bne_eq_false_iff_eq] at *
       subst_vars
       unfold twoS wS
       rw [HWD.out, HWS.out]
       repeat (first | rw [if_pos (by omega)] | rw [if_neg (by omega)])
       all_goals rfl)
    | (refine bodyPost_ret (res1 rfl _ _ _ w.heap.size _ rfl (load137 (c0 := .slice none 0 0) (c1 := .int .i64 0) (Blk.new w _ 137))) rfl (RHead.mk (l := []) (n := 0) (t := 0) ?_ rfl (Byts.nil _) ((Ext.refl _).alloc _))
       simp only [beq_iff_eq, beq_eq_false_iff_ne, bne_iff_ne, bne_eq_false_iff_eq] at *
       subst_vars
       unfold twoS wS
       rw [HWD.out, HWS.out]
       repeat (first | rw [if_pos (by omega)] | rw [if_neg (by omega)])
       all_goals rfl)
theorem two_B_8_8 (op d s : Int) (w : World) (o1 : op = 17) (hwd : wideS d = 8) (hws : wideS s = 8) (d1 : 1 ≤ d) (d2 : d ≤ 8) (s1 : 1 ≤ s) (s2 : s ≤ 8) : Calls Tryz.prog 157 #[.int .i64 op, .int .i64 d, .int .i64 s] w (RHead w (twoS op d s)) := by
  have hnd := numS_range d
  have hns := numS_range s
  have MM := Lib.hid (M2.of op d s)
  unfold M2 at MM
  have HWD := Lib.hid hwd; have HWS := Lib.hid hws
  clear hwd hws
  have e9 : (d == 9) = false := by simp; omega
  have e17 : (d == 17) = false := by simp; omega
  have e18 : (d == 18) = false := by simp; omega
  have e19 : (d == 19) = false := by simp; omega
  have e20 : (d == 20) = false := by simp; omega
  have g9 : (s == 9) = false := by simp; omega
  have g17 : (s == 17) = false := by simp; omega
  have g18 : (s == 18) = false := by simp; omega
  have g19 : (s == 19) = false := by simp; omega
  have g20 : (s == 20) = false := by simp; omega
  have ne9 : (d != 9) = true := by simp; omega
  have ng9 : (s != 9) = true := by simp; omega
  subst o1
  go_enter Tryz.func157, Tryz.ntmps157
  go_wp2_with (first
    | (go_at_call 191; ((with_reducible refine (wide_any _ _).mono ?_); (first | rw [HWD.out] | rw [HWS.out] | rw [show wideS 1 = 8 from rfl] | rw [show wideS 9 = 16 from rfl] | rw [show wideS 17 = 0 from rfl] | rw [show wideS 18 = 0 from rfl] | rw [show wideS 19 = 0 from rfl] | rw [show wideS 20 = 0 from rfl]); rintro e w' ⟨rfl, rfl⟩))
    | (go_at_call 193; ((with_reducible refine (num_any _ (by omega) (by omega) _).mono ?_); rintro e w' ⟨rfl, rfl⟩))
    | (go_at_call 195; ((with_reducible refine (mem_any _ _ (by omega) (by omega) _).mono ?_); rintro e w' ⟨rfl, rfl⟩))
    | (go_at_call 192; ((with_reducible refine (rm_any _ _ (by omega) (by omega) _).mono ?_); rintro e w' ⟨rfl, rfl⟩))
    | (go_at_call 194; ((with_reducible refine (places_any _ _ _).mono ?_); rintro e w1 ⟨A, c, rfl, hby, hx1⟩; have B0 := (Blk.new w #[.slice none 0 0, .int .i64 0] 137).ext hx1; have k0 := B0.cell; have f0 := B0.frozen))
    | (go_at_call 159; ((with_reducible refine (of159_any _ _ _ _ _).mono ?_); rintro e w1 ⟨rfl, hx1⟩; have B0 := ((Blk.new w #[.slice none 0 0, .int .i64 0] 137).alloc _).ext hx1; have k0 := B0.cell; have f0 := B0.frozen)))
  all_goals first
    | (refine bodyPost_ret (res1 rfl _ _ _ w.heap.size _ rfl (load137 ((B0.put 0 _).put 1 _))) rfl (head_end2 (w.alloc (.cells #[.slice none 0 0, .int .i64 0] 137)) _ _ ?_ ?_ ?_ ((Ext.refl w).alloc _) (by simp) (by simp) hx1) <;> clear hx1 B0 k0 f0
       · simp only [beq_iff_eq, beq_eq_false_iff_ne, bne_iff_ne, bne_eq_false_iff_eq] at *
         subst_vars
         unfold twoS wS
         rw [HWD.out, HWS.out]
         repeat (first | rw [if_pos (by omega)] | rw [if_neg (by omega)])
         all_goals rfl
       · have M := MM.out
         subst_vars
         first | omega | decide
       · have M := MM.out
         subst_vars
         first | omega | decide)
    | (refine bodyPost_ret (res1 rfl _ _ _ w.heap.size _ rfl (load137 ((B0.put 0 _).put 1 _))) rfl (head_end1 (w.alloc (.cells #[.slice none 0 0, .int .i64 0] 137)) _ _ ?_ ?_ ((Ext.refl w).alloc _) (by simp) (by simp) hx1) <;> clear hx1 B0 k0 f0
       · simp only [beq_iff_eq, beq_eq_false_iff_ne, bne_iff_ne, bne_eq_false_iff_eq] at *
         subst_vars
         unfold twoS wS
         rw [HWD.out, HWS.out]
         repeat (first | rw [if_pos (by omega)] | rw [if_neg (by omega)])
         all_goals rfl
       · have M := MM.out
         subst_vars
         omega)
    | (refine bodyPost_ret (res1 rfl _ _ _ w.heap.size _ rfl (load137 ((B0.put 0 _).put 1 _))) rfl (RHead.pass ?_ B0 hby (((Ext.refl w).alloc _).trans hx1)) <;> clear hx1 B0 k0 f0 hby
       simp only [beq_iff_eq, beq_eq_false_iff_ne, bne_iff_ne, bne_eq_false_iff_eq] at *
       subst_vars
       unfold twoS wS
       rw [HWD.out, HWS.out]
       repeat (first | rw [if_pos (by omega)] | rw [if_neg (by omega)])
       all_goals rfl)
    | (refine bodyPost_ret (res1 rfl _ _ _ w.heap.size _ rfl (load137 (c0 := .slice none 0 0) (c1 := .int .i64 0) (Blk.new w _ 137))) rfl (RHead.mk (l := []) (n := 0) (t := 0) ?_ rfl (Byts.nil _) ((Ext.refl _).alloc _))
       simp only [beq_iff_eq, beq_eq_false_iff_ne, bne_iff_ne, bne_eq_false_iff_eq] at *
       subst_vars
       unfold twoS wS
       rw [HWD.out, HWS.out]
       repeat (first | rw [if_pos (by omega)] | rw [if_neg (by omega)])
       all_goals rfl)
theorem two_B_8_16 (op d s : Int) (w : World) (o1 : op = 17) (hwd : wideS d = 8) (hws : wideS s = 16) (d1 : 1 ≤ d) (d2 : d ≤ 8) (s1 : 9 ≤ s) (s2 : s ≤ 16) : Calls Tryz.prog 157 #[.int .i64 op, .int .i64 d, .int .i64 s] w (RHead w (twoS op d s)) := by
  have hnd := numS_range d
  have hns := numS_range s
  have MM := Lib.hid (M2.of op d s)
  unfold M2 at MM
  have HWD := Lib.hid hwd; have HWS := Lib.hid hws
  clear hwd hws
  have e9 : (d == 9) = false := by simp; omega
  have e17 : (d == 17) = false := by simp; omega
  have e18 : (d == 18) = false := by simp; omega
  have e19 : (d == 19) = false := by simp; omega
  have e20 : (d == 20) = false := by simp; omega
  have g1 : (s == 1) = false := by simp; omega
  have g17 : (s == 17) = false := by simp; omega
  have g18 : (s == 18) = false := by simp; omega
  have g19 : (s == 19) = false := by simp; omega
  have g20 : (s == 20) = false := by simp; omega
  have ne9 : (d != 9) = true := by simp; omega
  subst o1
  go_enter Tryz.func157, Tryz.ntmps157
  go_wp2_with (first
    | (go_at_call 191; ((with_reducible refine (wide_any _ _).mono ?_); (first | rw [HWD.out] | rw [HWS.out] | rw [show wideS 1 = 8 from rfl] | rw [show wideS 9 = 16 from rfl] | rw [show wideS 17 = 0 from rfl] | rw [show wideS 18 = 0 from rfl] | rw [show wideS 19 = 0 from rfl] | rw [show wideS 20 = 0 from rfl]); rintro e w' ⟨rfl, rfl⟩))
    | (go_at_call 193; ((with_reducible refine (num_any _ (by omega) (by omega) _).mono ?_); rintro e w' ⟨rfl, rfl⟩))
    | (go_at_call 195; ((with_reducible refine (mem_any _ _ (by omega) (by omega) _).mono ?_); rintro e w' ⟨rfl, rfl⟩))
    | (go_at_call 192; ((with_reducible refine (rm_any _ _ (by omega) (by omega) _).mono ?_); rintro e w' ⟨rfl, rfl⟩))
    | (go_at_call 194; ((with_reducible refine (places_any _ _ _).mono ?_); rintro e w1 ⟨A, c, rfl, hby, hx1⟩; have B0 := (Blk.new w #[.slice none 0 0, .int .i64 0] 137).ext hx1; have k0 := B0.cell; have f0 := B0.frozen))
    | (go_at_call 159; ((with_reducible refine (of159_any _ _ _ _ _).mono ?_); rintro e w1 ⟨rfl, hx1⟩; have B0 := ((Blk.new w #[.slice none 0 0, .int .i64 0] 137).alloc _).ext hx1; have k0 := B0.cell; have f0 := B0.frozen)))
  all_goals first
    | (refine bodyPost_ret (res1 rfl _ _ _ w.heap.size _ rfl (load137 ((B0.put 0 _).put 1 _))) rfl (head_end2 (w.alloc (.cells #[.slice none 0 0, .int .i64 0] 137)) _ _ ?_ ?_ ?_ ((Ext.refl w).alloc _) (by simp) (by simp) hx1) <;> clear hx1 B0 k0 f0
       · simp only [beq_iff_eq, beq_eq_false_iff_ne, bne_iff_ne, bne_eq_false_iff_eq] at *
         subst_vars
         unfold twoS wS
         rw [HWD.out, HWS.out]
         repeat (first | rw [if_pos (by omega)] | rw [if_neg (by omega)])
         all_goals rfl
       · have M := MM.out
         subst_vars
         first | omega | decide
       · have M := MM.out
         subst_vars
         first | omega | decide)
    | (refine bodyPost_ret (res1 rfl _ _ _ w.heap.size _ rfl (load137 ((B0.put 0 _).put 1 _))) rfl (head_end1 (w.alloc (.cells #[.slice none 0 0, .int .i64 0] 137)) _ _ ?_ ?_ ((Ext.refl w).alloc _) (by simp) (by simp) hx1) <;> clear hx1 B0 k0 f0
       · simp only [beq_iff_eq, beq_eq_false_iff_ne, bne_iff_ne, bne_eq_false_iff_eq] at *
         subst_vars
         unfold twoS wS
         rw [HWD.out, HWS.out]
         repeat (first | rw [if_pos (by omega)] | rw [if_neg (by omega)])
         all_goals rfl
       · have M := MM.out
         subst_vars
         omega)
    | (refine bodyPost_ret (res1 rfl _ _ _ w.heap.size _ rfl (load137 ((B0.put 0 _).put 1 _))) rfl (RHead.pass ?_ B0 hby (((Ext.refl w).alloc _).trans hx1)) <;> clear hx1 B0 k0 f0 hby
       simp only [beq_iff_eq, beq_eq_false_iff_ne, bne_iff_ne, bne_eq_false_iff_eq] at *
       subst_vars
       unfold twoS wS
       rw [HWD.out, HWS.out]
       repeat (first | rw [if_pos (by omega)] | rw [if_neg (by omega)])
       all_goals rfl)
    | (refine bodyPost_ret (res1 rfl _ _ _ w.heap.size _ rfl (load137 (c0 := .slice none 0 0) (c1 := .int .i64 0) (Blk.new w _ 137))) rfl (RHead.mk (l := []) (n := 0) (t := 0) ?_ rfl (Byts.nil _) ((Ext.refl _).alloc _))
       simp only [beq_iff_eq, beq_eq_false_iff_ne, bne_iff_ne, bne_eq_false_iff_eq] at *
       subst_vars
       unfold twoS wS
       rw [HWD.out, HWS.out]
       repeat (first | rw [if_pos (by omega)] | rw [if_neg (by omega)])
       all_goals rfl)
theorem two_B_8_0 (op d s : Int) (w : World) (o1 : op = 17) (hwd : wideS d = 8) (hws : wideS s = 0) (d1 : 1 ≤ d) (d2 : d ≤ 8) (s1 : s < 1 ∨ 16 < s) : Calls Tryz.prog 157 #[.int .i64 op, .int .i64 d, .int .i64 s] w (RHead w (twoS op d s)) := by
  have hnd := numS_range d
  have hns := numS_range s
  have MM := Lib.hid (M2.of op d s)
  unfold M2 at MM
  have HWD := Lib.hid hwd; have HWS := Lib.hid hws
  clear hwd hws
  have e9 : (d == 9) = false := by simp; omega
  have e17 : (d == 17) = false := by simp; omega
  have e18 : (d == 18) = false := by simp; omega
  have e19 : (d == 19) = false := by simp; omega
  have e20 : (d == 20) = false := by simp; omega
  have g1 : (s == 1) = false := by simp; omega
  have g9 : (s == 9) = false := by simp; omega
  have ne9 : (d != 9) = true := by simp; omega
  have ng9 : (s != 9) = true := by simp; omega
  subst o1
  go_enter Tryz.func157, Tryz.ntmps157
  go_wp2_with (first
    | (go_at_call 191; ((with_reducible refine (wide_any _ _).mono ?_); (first | rw [HWD.out] | rw [HWS.out] | rw [show wideS 1 = 8 from rfl] | rw [show wideS 9 = 16 from rfl] | rw [show wideS 17 = 0 from rfl] | rw [show wideS 18 = 0 from rfl] | rw [show wideS 19 = 0 from rfl] | rw [show wideS 20 = 0 from rfl]); rintro e w' ⟨rfl, rfl⟩))
    | (go_at_call 193; ((with_reducible refine (num_any _ (by omega) (by omega) _).mono ?_); rintro e w' ⟨rfl, rfl⟩))
    | (go_at_call 195; ((with_reducible refine (mem_any _ _ (by omega) (by omega) _).mono ?_); rintro e w' ⟨rfl, rfl⟩))
    | (go_at_call 192; ((with_reducible refine (rm_any _ _ (by omega) (by omega) _).mono ?_); rintro e w' ⟨rfl, rfl⟩))
    | (go_at_call 194; ((with_reducible refine (places_any _ _ _).mono ?_); rintro e w1 ⟨A, c, rfl, hby, hx1⟩; have B0 := (Blk.new w #[.slice none 0 0, .int .i64 0] 137).ext hx1; have k0 := B0.cell; have f0 := B0.frozen))
    | (go_at_call 159; ((with_reducible refine (of159_any _ _ _ _ _).mono ?_); rintro e w1 ⟨rfl, hx1⟩; have B0 := ((Blk.new w #[.slice none 0 0, .int .i64 0] 137).alloc _).ext hx1; have k0 := B0.cell; have f0 := B0.frozen)))
  all_goals first
    | (refine bodyPost_ret (res1 rfl _ _ _ w.heap.size _ rfl (load137 ((B0.put 0 _).put 1 _))) rfl (head_end2 (w.alloc (.cells #[.slice none 0 0, .int .i64 0] 137)) _ _ ?_ ?_ ?_ ((Ext.refl w).alloc _) (by simp) (by simp) hx1) <;> clear hx1 B0 k0 f0
       · simp only [beq_iff_eq, beq_eq_false_iff_ne, bne_iff_ne, bne_eq_false_iff_eq] at *
         subst_vars
         unfold twoS wS
         rw [HWD.out, HWS.out]
         repeat (first | rw [if_pos (by omega)] | rw [if_neg (by omega)])
         all_goals rfl
       · have M := MM.out
         subst_vars
         first | omega | decide
       · have M := MM.out
         subst_vars
         first | omega | decide)
    | (refine bodyPost_ret (res1 rfl _ _ _ w.heap.size _ rfl (load137 ((B0.put 0 _).put 1 _))) rfl (head_end1 (w.alloc (.cells #[.slice none 0 0, .int .i64 0] 137)) _ _ ?_ ?_ ((Ext.refl w).alloc _) (by simp) (by simp) hx1) <;> clear hx1 B0 k0 f0
       · simp only [beq_iff_eq, beq_eq_false_iff_ne, bne_iff_ne, bne_eq_false_iff_eq] at *
         subst_vars
         unfold twoS wS
         rw [HWD.out, HWS.out]
         repeat (first | rw [if_pos (by omega)] | rw [if_neg (by omega)])
         all_goals rfl
       · have M := MM.out
         subst_vars
         omega)
    | (refine bodyPost_ret (res1 rfl _ _ _ w.heap.size _ rfl (load137 ((B0.put 0 _).put 1 _))) rfl (RHead.pass ?_ B0 hby (((Ext.refl w).alloc _).trans hx1)) <;> clear hx1 B0 k0 f0 hby
       simp only [beq_iff_eq, beq_eq_false_iff_ne, bne_iff_ne, bne_eq_false_iff_eq] at *
       subst_vars
       unfold twoS wS
       rw [HWD.out, HWS.out]
       repeat (first | rw [if_pos (by omega)] | rw [if_neg (by omega)])
       all_goals rfl)
    | (refine bodyPost_ret (res1 rfl _ _ _ w.heap.size _ rfl (load137 (c0 := .slice none 0 0) (c1 := .int .i64 0) (Blk.new w _ 137))) rfl (RHead.mk (l := []) (n := 0) (t := 0) ?_ rfl (Byts.nil _) ((Ext.refl _).alloc _))
       simp only [beq_iff_eq, beq_eq_false_iff_ne, bne_iff_ne, bne_eq_false_iff_eq] at *
       subst_vars
       unfold twoS wS
       rw [HWD.out, HWS.out]
       repeat (first | rw [if_pos (by omega)] | rw [if_neg (by omega)])
       all_goals rfl)
theorem two_B_16_8 (op d s : Int) (w : World) (o1 : op = 17) (hwd : wideS d = 16) (hws : wideS s = 8) (d1 : 9 ≤ d) (d2 : d ≤ 16) (s1 : 1 ≤ s) (s2 : s ≤ 8) : Calls Tryz.prog 157 #[.int .i64 op, .int .i64 d, .int .i64 s] w (RHead w (twoS op d s)) := by
  have hnd := numS_range d
  have hns := numS_range s
  have MM := Lib.hid (M2.of op d s)
  unfold M2 at MM
  have HWD := Lib.hid hwd; have HWS := Lib.hid hws
  clear hwd hws
  have e1 : (d == 1) = false := by simp; omega
  have e17 : (d == 17) = false := by simp; omega
  have e18 : (d == 18) = false := by simp; omega
  have e19 : (d == 19) = false := by simp; omega
  have e20 : (d == 20) = false := by simp; omega
  have g9 : (s == 9) = false := by simp; omega
  have g17 : (s == 17) = false := by simp; omega
  have g18 : (s == 18) = false := by simp; omega
  have g19 : (s == 19) = false := by simp; omega
  have g20 : (s == 20) = false := by simp; omega
  have ng9 : (s != 9) = true := by simp; omega
  subst o1
  go_enter Tryz.func157, Tryz.ntmps157
  go_wp2_with (first
    | (go_at_call 191; ((with_reducible refine (wide_any _ _).mono ?_); (first | rw [HWD.out] | rw [HWS.out] | rw [show wideS 1 = 8 from rfl] | rw [show wideS 9 = 16 from rfl] | rw [show wideS 17 = 0 from rfl] | rw [show wideS 18 = 0 from rfl] | rw [show wideS 19 = 0 from rfl] | rw [show wideS 20 = 0 from rfl]); rintro e w' ⟨rfl, rfl⟩))
    | (go_at_call 193; ((with_reducible refine (num_any _ (by omega) (by omega) _).mono ?_); rintro e w' ⟨rfl, rfl⟩))
    | (go_at_call 195; ((with_reducible refine (mem_any _ _ (by omega) (by omega) _).mono ?_); rintro e w' ⟨rfl, rfl⟩))
    | (go_at_call 192; ((with_reducible refine (rm_any _ _ (by omega) (by omega) _).mono ?_); rintro e w' ⟨rfl, rfl⟩))
    | (go_at_call 194; ((with_reducible refine (places_any _ _ _).mono ?_); rintro e w1 ⟨A, c, rfl, hby, hx1⟩; have B0 := (Blk.new w #[.slice none 0 0, .int .i64 0] 137).ext hx1; have k0 := B0.cell; have f0 := B0.frozen))
    | (go_at_call 159; ((with_reducible refine (of159_any _ _ _ _ _).mono ?_); rintro e w1 ⟨rfl, hx1⟩; have B0 := ((Blk.new w #[.slice none 0 0, .int .i64 0] 137).alloc _).ext hx1; have k0 := B0.cell; have f0 := B0.frozen)))
  all_goals first
    | (refine bodyPost_ret (res1 rfl _ _ _ w.heap.size _ rfl (load137 ((B0.put 0 _).put 1 _))) rfl (head_end2 (w.alloc (.cells #[.slice none 0 0, .int .i64 0] 137)) _ _ ?_ ?_ ?_ ((Ext.refl w).alloc _) (by simp) (by simp) hx1) <;> clear hx1 B0 k0 f0
       · simp only [beq_iff_eq, beq_eq_false_iff_ne, bne_iff_ne, bne_eq_false_iff_eq] at *
         subst_vars
         unfold twoS wS
         rw [HWD.out, HWS.out]
         repeat (first | rw [if_pos (by omega)] | rw [if_neg (by omega)])
         all_goals rfl
       · have M := MM.out
         subst_vars
         first | omega | decide
       · have M := MM.out
         subst_vars
         first | omega | decide)
    | (refine bodyPost_ret (res1 rfl _ _ _ w.heap.size _ rfl (load137 ((B0.put 0 _).put 1 _))) rfl (head_end1 (w.alloc (.cells #[.slice none 0 0, .int .i64 0] 137)) _ _ ?_ ?_ ((Ext.refl w).alloc _) (by simp) (by simp) hx1) <;> clear hx1 B0 k0 f0
       · simp only [beq_iff_eq, beq_eq_false_iff_ne, bne_iff_ne, bne_eq_false_iff_eq] at *
         subst_vars
         unfold twoS wS
         rw [HWD.out, HWS.out]
         repeat (first | rw [if_pos (by omega)] | rw [if_neg (by omega)])
         all_goals rfl
       · have M := MM.out
         subst_vars
         omega)
    | (refine bodyPost_ret (res1 rfl _ _ _ w.heap.size _ rfl (load137 ((B0.put 0 _).put 1 _))) rfl (RHead.pass ?_ B0 hby (((Ext.refl w).alloc _).trans hx1)) <;> clear hx1 B0 k0 f0 hby
       simp only [beq_iff_eq, beq_eq_false_iff_ne, bne_iff_ne, bne_eq_false_iff_eq] at *
       subst_vars
       unfold twoS wS
       rw [HWD.out, HWS.out]
       repeat (first | rw [if_pos (by omega)] | rw [if_neg (by omega)])
       all_goals rfl)
    | (refine bodyPost_ret (res1 rfl _ _ _ w.heap.size _ rfl (load137 (c0 := .slice none 0 0) (c1 := .int .i64 0) (Blk.new w _ 137))) rfl (RHead.mk (l := []) (n := 0) (t := 0) ?_ rfl (Byts.nil _) ((Ext.refl _).alloc _))
       simp only [beq_iff_eq, beq_eq_false_iff_ne, bne_iff_ne, bne_eq_false_iff_eq] at *
       subst_vars
       unfold twoS wS
       rw [HWD.out, HWS.out]
       repeat (first | rw [if_pos (by omega)] | rw [if_neg (by omega)])
       all_goals rfl)
theorem two_B_16_16 (op d s : Int) (w : World) (o1 : op = 17) (hwd : wideS d = 16) (hws : wideS s = 16) (d1 : 9 ≤ d) (d2 : d ≤ 16) (s1 : 9 ≤ s) (s2 : s ≤ 16) : Calls Tryz.prog 157 #[.int .i64 op, .int .i64 d, .int .i64 s] w (RHead w (twoS op d s)) := by
  have hnd := numS_range d
  have hns := numS_range s
  have MM := Lib.hid (M2.of op d s)
  unfold M2 at MM
  have HWD := Lib.hid hwd; have HWS := Lib.hid hws
  clear hwd hws
  have e1 : (d == 1) = false := by simp; omega
  have e17 : (d == 17) = false := by simp; omega
  have e18 : (d == 18) = false := by simp; omega
  have e19 : (d == 19) = false := by simp; omega
  have e20 : (d == 20) = false := by simp; omega
  have g1 : (s == 1) = false := by simp; omega
  have g17 : (s == 17) = false := by simp; omega
  have g18 : (s == 18) = false := by simp; omega
  have g19 : (s == 19) = false := by simp; omega
  have g20 : (s == 20) = false := by simp; omega
  subst o1
  go_enter Tryz.func157, Tryz.ntmps157
  go_wp2_with (first
    | (go_at_call 191; ((with_reducible refine (wide_any _ _).mono ?_); (first | rw [HWD.out] | rw [HWS.out] | rw [show wideS 1 = 8 from rfl] | rw [show wideS 9 = 16 from rfl] | rw [show wideS 17 = 0 from rfl] | rw [show wideS 18 = 0 from rfl] | rw [show wideS 19 = 0 from rfl] | rw [show wideS 20 = 0 from rfl]); rintro e w' ⟨rfl, rfl⟩))
    | (go_at_call 193; ((with_reducible refine (num_any _ (by omega) (by omega) _).mono ?_); rintro e w' ⟨rfl, rfl⟩))
    | (go_at_call 195; ((with_reducible refine (mem_any _ _ (by omega) (by omega) _).mono ?_); rintro e w' ⟨rfl, rfl⟩))
    | (go_at_call 192; ((with_reducible refine (rm_any _ _ (by omega) (by omega) _).mono ?_); rintro e w' ⟨rfl, rfl⟩))
    | (go_at_call 194; ((with_reducible refine (places_any _ _ _).mono ?_); rintro e w1 ⟨A, c, rfl, hby, hx1⟩; have B0 := (Blk.new w #[.slice none 0 0, .int .i64 0] 137).ext hx1; have k0 := B0.cell; have f0 := B0.frozen))
    | (go_at_call 159; ((with_reducible refine (of159_any _ _ _ _ _).mono ?_); rintro e w1 ⟨rfl, hx1⟩; have B0 := ((Blk.new w #[.slice none 0 0, .int .i64 0] 137).alloc _).ext hx1; have k0 := B0.cell; have f0 := B0.frozen)))
  all_goals first
    | (refine bodyPost_ret (res1 rfl _ _ _ w.heap.size _ rfl (load137 ((B0.put 0 _).put 1 _))) rfl (head_end2 (w.alloc (.cells #[.slice none 0 0, .int .i64 0] 137)) _ _ ?_ ?_ ?_ ((Ext.refl w).alloc _) (by simp) (by simp) hx1) <;> clear hx1 B0 k0 f0
       · simp only [beq_iff_eq, beq_eq_false_iff_ne, bne_iff_ne, bne_eq_false_iff_eq] at *
         subst_vars
         unfold twoS wS
         rw [HWD.out, HWS.out]
         repeat (first | rw [if_pos (by omega)] | rw [if_neg (by omega)])
         all_goals rfl
       · have M := MM.out
         subst_vars
         first | omega | decide
       · have M := MM.out
         subst_vars
         first | omega | decide)
    | (refine bodyPost_ret (res1 rfl _ _ _ w.heap.size _ rfl (load137 ((B0.put 0 _).put 1 _))) rfl (head_end1 (w.alloc (.cells #[.slice none 0 0, .int .i64 0] 137)) _ _ ?_ ?_ ((Ext.refl w).alloc _) (by simp) (by simp) hx1) <;> clear hx1 B0 k0 f0
       · simp only [beq_iff_eq, beq_eq_false_iff_ne, bne_iff_ne, bne_eq_false_iff_eq] at *
         subst_vars
         unfold twoS wS
         rw [HWD.out, HWS.out]
         repeat (first | rw [if_pos (by omega)] | rw [if_neg (by omega)])
         all_goals rfl
       · have M := MM.out
         subst_vars
         omega)
    | (refine bodyPost_ret (res1 rfl _ _ _ w.heap.size _ rfl (load137 ((B0.put 0 _).put 1 _))) rfl (RHead.pass ?_ B0 hby (((Ext.refl w).alloc _).trans hx1)) <;> clear hx1 B0 k0 f0 hby
       simp only [beq_iff_eq, beq_eq_false_iff_ne, bne_iff_ne, bne_eq_false_iff_eq] at *
       subst_vars
       unfold twoS wS
       rw [HWD.out, HWS.out]
       repeat (first | rw [if_pos (by omega)] | rw [if_neg (by omega)])
       all_goals rfl)
    | (refine bodyPost_ret (res1 rfl _ _ _ w.heap.size _ rfl (load137 (c0 := .slice none 0 0) (c1 := .int .i64 0) (Blk.new w _ 137))) rfl (RHead.mk (l := []) (n := 0) (t := 0) ?_ rfl (Byts.nil _) ((Ext.refl _).alloc _))
       simp only [beq_iff_eq, beq_eq_false_iff_ne, bne_iff_ne, bne_eq_false_iff_eq] at *
       subst_vars
       unfold twoS wS
       rw [HWD.out, HWS.out]
       repeat (first | rw [if_pos (by omega)] | rw [if_neg (by omega)])
       all_goals rfl)
theorem two_B_16_0 (op d s : Int) (w : World) (o1 : op = 17) (hwd : wideS d = 16) (hws : wideS s = 0) (d1 : 9 ≤ d) (d2 : d ≤ 16) (s1 : s < 1 ∨ 16 < s) : Calls Tryz.prog 157 #[.int .i64 op, .int .i64 d, .int .i64 s] w (RHead w (twoS op d s)) := by
  have hnd := numS_range d
  have hns := numS_range s
  have MM := Lib.hid (M2.of op d s)
  unfold M2 at MM
  have HWD := Lib.hid hwd; have HWS := Lib.hid hws
  clear hwd hws
  have e1 : (d == 1) = false := by simp; omega
  have e17 : (d == 17) = false := by simp; omega
  have e18 : (d == 18) = false := by simp; omega
  have e19 : (d == 19) = false := by simp; omega
  have e20 : (d == 20) = false := by simp; omega
  have g1 : (s == 1) = false := by simp; omega
  have g9 : (s == 9) = false := by simp; omega
  have ng9 : (s != 9) = true := by simp; omega
  subst o1
  go_enter Tryz.func157, Tryz.ntmps157
  go_wp2_with (first
    | (go_at_call 191; ((with_reducible refine (wide_any _ _).mono ?_); (first | rw [HWD.out] | rw [HWS.out] | rw [show wideS 1 = 8 from rfl] | rw [show wideS 9 = 16 from rfl] | rw [show wideS 17 = 0 from rfl] | rw [show wideS 18 = 0 from rfl] | rw [show wideS 19 = 0 from rfl] | rw [show wideS 20 = 0 from rfl]); rintro e w' ⟨rfl, rfl⟩))
    | (go_at_call 193; ((with_reducible refine (num_any _ (by omega) (by omega) _).mono ?_); rintro e w' ⟨rfl, rfl⟩))
    | (go_at_call 195; ((with_reducible refine (mem_any _ _ (by omega) (by omega) _).mono ?_); rintro e w' ⟨rfl, rfl⟩))
    | (go_at_call 192; ((with_reducible refine (rm_any _ _ (by omega) (by omega) _).mono ?_); rintro e w' ⟨rfl, rfl⟩))
    | (go_at_call 194; ((with_reducible refine (places_any _ _ _).mono ?_); rintro e w1 ⟨A, c, rfl, hby, hx1⟩; have B0 := (Blk.new w #[.slice none 0 0, .int .i64 0] 137).ext hx1; have k0 := B0.cell; have f0 := B0.frozen))
    | (go_at_call 159; ((with_reducible refine (of159_any _ _ _ _ _).mono ?_); rintro e w1 ⟨rfl, hx1⟩; have B0 := ((Blk.new w #[.slice none 0 0, .int .i64 0] 137).alloc _).ext hx1; have k0 := B0.cell; have f0 := B0.frozen)))
  all_goals first
    | (refine bodyPost_ret (res1 rfl _ _ _ w.heap.size _ rfl (load137 ((B0.put 0 _).put 1 _))) rfl (head_end2 (w.alloc (.cells #[.slice none 0 0, .int .i64 0] 137)) _ _ ?_ ?_ ?_ ((Ext.refl w).alloc _) (by simp) (by simp) hx1) <;> clear hx1 B0 k0 f0
       · simp only [beq_iff_eq, beq_eq_false_iff_ne, bne_iff_ne, bne_eq_false_iff_eq] at *
         subst_vars
         unfold twoS wS
         rw [HWD.out, HWS.out]
         repeat (first | rw [if_pos (by omega)] | rw [if_neg (by omega)])
         all_goals rfl
       · have M := MM.out
         subst_vars
         first | omega | decide
       · have M := MM.out
         subst_vars
         first | omega | decide)
    | (refine bodyPost_ret (res1 rfl _ _ _ w.heap.size _ rfl (load137 ((B0.put 0 _).put 1 _))) rfl (head_end1 (w.alloc (.cells #[.slice none 0 0, .int .i64 0] 137)) _ _ ?_ ?_ ((Ext.refl w).alloc _) (by simp) (by simp) hx1) <;> clear hx1 B0 k0 f0
       · simp only [beq_iff_eq, beq_eq_false_iff_ne, bne_iff_ne, bne_eq_false_iff_eq] at *
         subst_vars
         unfold twoS wS
         rw [HWD.out, HWS.out]
         repeat (first | rw [if_pos (by omega)] | rw [if_neg (by omega)])
         all_goals rfl
       · have M := MM.out
         subst_vars
         omega)
    | (refine bodyPost_ret (res1 rfl _ _ _ w.heap.size _ rfl (load137 ((B0.put 0 _).put 1 _))) rfl (RHead.pass ?_ B0 hby (((Ext.refl w).alloc _).trans hx1)) <;> clear hx1 B0 k0 f0 hby
       simp only [beq_iff_eq, beq_eq_false_iff_ne, bne_iff_ne, bne_eq_false_iff_eq] at *
       subst_vars
       unfold twoS wS
       rw [HWD.out, HWS.out]
       repeat (first | rw [if_pos (by omega)] | rw [if_neg (by omega)])
       all_goals rfl)
    | (refine bodyPost_ret (res1 rfl _ _ _ w.heap.size _ rfl (load137 (c0 := .slice none 0 0) (c1 := .int .i64 0) (Blk.new w _ 137))) rfl (RHead.mk (l := []) (n := 0) (t := 0) ?_ rfl (Byts.nil _) ((Ext.refl _).alloc _))
       simp only [beq_iff_eq, beq_eq_false_iff_ne, bne_iff_ne, bne_eq_false_iff_eq] at *
       subst_vars
       unfold twoS wS
       rw [HWD.out, HWS.out]
       repeat (first | rw [if_pos (by omega)] | rw [if_neg (by omega)])
       all_goals rfl)
theorem two_B_0_8 (op d s : Int) (w : World) (o1 : op = 17) (hwd : wideS d = 0) (hws : wideS s = 8) (d1 : d < 1 ∨ 16 < d) (s1 : 1 ≤ s) (s2 : s ≤ 8) : Calls Tryz.prog 157 #[.int .i64 op, .int .i64 d, .int .i64 s] w (RHead w (twoS op d s)) := by
  have hnd := numS_range d
  have hns := numS_range s
  have MM := Lib.hid (M2.of op d s)
  unfold M2 at MM
  have HWD := Lib.hid hwd; have HWS := Lib.hid hws
  clear hwd hws
  have e1 : (d == 1) = false := by simp; omega
  have e9 : (d == 9) = false := by simp; omega
  have g9 : (s == 9) = false := by simp; omega
  have g17 : (s == 17) = false := by simp; omega
  have g18 : (s == 18) = false := by simp; omega
  have g19 : (s == 19) = false := by simp; omega
  have g20 : (s == 20) = false := by simp; omega
  have ne9 : (d != 9) = true := by simp; omega
  have ng9 : (s != 9) = true := by simp; omega
  subst o1
  go_enter Tryz.func157, Tryz.ntmps157
  go_wp2_with (first
    | (go_at_call 191; ((with_reducible refine (wide_any _ _).mono ?_); (first | rw [HWD.out] | rw [HWS.out] | rw [show wideS 1 = 8 from rfl] | rw [show wideS 9 = 16 from rfl] | rw [show wideS 17 = 0 from rfl] | rw [show wideS 18 = 0 from rfl] | rw [show wideS 19 = 0 from rfl] | rw [show wideS 20 = 0 from rfl]); rintro e w' ⟨rfl, rfl⟩))
    | (go_at_call 193; ((with_reducible refine (num_any _ (by omega) (by omega) _).mono ?_); rintro e w' ⟨rfl, rfl⟩))
    | (go_at_call 195; ((with_reducible refine (mem_any _ _ (by omega) (by omega) _).mono ?_); rintro e w' ⟨rfl, rfl⟩))
    | (go_at_call 192; ((with_reducible refine (rm_any _ _ (by omega) (by omega) _).mono ?_); rintro e w' ⟨rfl, rfl⟩))
    | (go_at_call 194; ((with_reducible refine (places_any _ _ _).mono ?_); rintro e w1 ⟨A, c, rfl, hby, hx1⟩; have B0 := (Blk.new w #[.slice none 0 0, .int .i64 0] 137).ext hx1; have k0 := B0.cell; have f0 := B0.frozen))
    | (go_at_call 159; ((with_reducible refine (of159_any _ _ _ _ _).mono ?_); rintro e w1 ⟨rfl, hx1⟩; have B0 := ((Blk.new w #[.slice none 0 0, .int .i64 0] 137).alloc _).ext hx1; have k0 := B0.cell; have f0 := B0.frozen)))
  all_goals first
    | (refine bodyPost_ret (res1 rfl _ _ _ w.heap.size _ rfl (load137 ((B0.put 0 _).put 1 _))) rfl (head_end2 (w.alloc (.cells #[.slice none 0 0, .int .i64 0] 137)) _ _ ?_ ?_ ?_ ((Ext.refl w).alloc _) (by simp) (by simp) hx1) <;> clear hx1 B0 k0 f0
       · simp only [beq_iff_eq, beq_eq_false_iff_ne, bne_iff_ne, bne_eq_false_iff_eq] at *
         subst_vars
         unfold twoS wS
         rw [HWD.out, HWS.out]
         repeat (first | rw [if_pos (by omega)] | rw [if_neg (by omega)])
         all_goals rfl
       · have M := MM.out
         subst_vars
         first | omega | decide
       · have M := MM.out
         subst_vars
         first | omega | decide)
    | (refine bodyPost_ret (res1 rfl _ _ _ w.heap.size _ rfl (load137 ((B0.put 0 _).put 1 _))) rfl (head_end1 (w.alloc (.cells #[.slice none 0 0, .int .i64 0] 137)) _ _ ?_ ?_ ((Ext.refl w).alloc _) (by simp) (by simp) hx1) <;> clear hx1 B0 k0 f0
       · simp only [beq_iff_eq, beq_eq_false_iff_ne, bne_iff_ne, bne_eq_false_iff_eq] at *
         subst_vars
         unfold twoS wS
         rw [HWD.out, HWS.out]
         repeat (first | rw [if_pos (by omega)] | rw [if_neg (by omega)])
         all_goals rfl
       · have M := MM.out
         subst_vars
         omega)
    | (refine bodyPost_ret (res1 rfl _ _ _ w.heap.size _ rfl (load137 ((B0.put 0 _).put 1 _))) rfl (RHead.pass ?_ B0 hby (((Ext.refl w).alloc _).trans hx1)) <;> clear hx1 B0 k0 f0 hby
       simp only [beq_iff_eq, beq_eq_false_iff_ne, bne_iff_ne, bne_eq_false_iff_eq] at *
       subst_vars
       unfold twoS wS
       rw [HWD.out, HWS.out]
       repeat (first | rw [if_pos (by omega)] | rw [if_neg (by omega)])
       all_goals rfl)
    | (refine bodyPost_ret (res1 rfl _ _ _ w.heap.size _ rfl (load137 (c0 := .slice none 0 0) (c1 := .int .i64 0) (Blk.new w _ 137))) rfl (RHead.mk (l := []) (n := 0) (t := 0) ?_ rfl (Byts.nil _) ((Ext.refl _).alloc _))
       simp only [beq_iff_eq, beq_eq_false_iff_ne, bne_iff_ne, bne_eq_false_iff_eq] at *
       subst_vars
       unfold twoS wS
       rw [HWD.out, HWS.out]
       repeat (first | rw [if_pos (by omega)] | rw [if_neg (by omega)])
       all_goals rfl)
theorem two_B_0_16 (op d s : Int) (w : World) (o1 : op = 17) (hwd : wideS d = 0) (hws : wideS s = 16) (d1 : d < 1 ∨ 16 < d) (s1 : 9 ≤ s) (s2 : s ≤ 16) : Calls Tryz.prog 157 #[.int .i64 op, .int .i64 d, .int .i64 s] w (RHead w (twoS op d s)) := by
  have hnd := numS_range d
  have hns := numS_range s
  have MM := Lib.hid (M2.of op d s)
  unfold M2 at MM
  have HWD := Lib.hid hwd; have HWS := Lib.hid hws
  clear hwd hws
  have e1 : (d == 1) = false := by simp; omega
  have e9 : (d == 9) = false := by simp; omega
  have g1 : (s == 1) = false := by simp; omega
  have g17 : (s == 17) = false := by simp; omega
  have g18 : (s == 18) = false := by simp; omega
  have g19 : (s == 19) = false := by simp; omega
  have g20 : (s == 20) = false := by simp; omega
  have ne9 : (d != 9) = true := by simp; omega
  subst o1
  go_enter Tryz.func157, Tryz.ntmps157
  go_wp2_with (first
    | (go_at_call 191; ((with_reducible refine (wide_any _ _).mono ?_); (first | rw [HWD.out] | rw [HWS.out] | rw [show wideS 1 = 8 from rfl] | rw [show wideS 9 = 16 from rfl] | rw [show wideS 17 = 0 from rfl] | rw [show wideS 18 = 0 from rfl] | rw [show wideS 19 = 0 from rfl] | rw [show wideS 20 = 0 from rfl]); rintro e w' ⟨rfl, rfl⟩))
    | (go_at_call 193; ((with_reducible refine (num_any _ (by omega) (by omega) _).mono ?_); rintro e w' ⟨rfl, rfl⟩))
    | (go_at_call 195; ((with_reducible refine (mem_any _ _ (by omega) (by omega) _).mono ?_); rintro e w' ⟨rfl, rfl⟩))
    | (go_at_call 192; ((with_reducible refine (rm_any _ _ (by omega) (by omega) _).mono ?_); rintro e w' ⟨rfl, rfl⟩))
    | (go_at_call 194; ((with_reducible refine (places_any _ _ _).mono ?_); rintro e w1 ⟨A, c, rfl, hby, hx1⟩; have B0 := (Blk.new w #[.slice none 0 0, .int .i64 0] 137).ext hx1; have k0 := B0.cell; have f0 := B0.frozen))
    | (go_at_call 159; ((with_reducible refine (of159_any _ _ _ _ _).mono ?_); rintro e w1 ⟨rfl, hx1⟩; have B0 := ((Blk.new w #[.slice none 0 0, .int .i64 0] 137).alloc _).ext hx1; have k0 := B0.cell; have f0 := B0.frozen)))
  all_goals first
    | (refine bodyPost_ret (res1 rfl _ _ _ w.heap.size _ rfl (load137 ((B0.put 0 _).put 1 _))) rfl (head_end2 (w.alloc (.cells #[.slice none 0 0, .int .i64 0] 137)) _ _ ?_ ?_ ?_ ((Ext.refl w).alloc _) (by simp) (by simp) hx1) <;> clear hx1 B0 k0 f0
       · simp only [beq_iff_eq, beq_eq_false_iff_ne, bne_iff_ne, bne_eq_false_iff_eq] at *
         subst_vars
         unfold twoS wS
         rw [HWD.out, HWS.out]
         repeat (first | rw [if_pos (by omega)] | rw [if_neg (by omega)])
         all_goals rfl
       · have M := MM.out
         subst_vars
         first | omega | decide
       · have M := MM.out
         subst_vars
         first | omega | decide)
    | (refine bodyPost_ret (res1 rfl _ _ _ w.heap.size _ rfl (load137 ((B0.put 0 _).put 1 _))) rfl (head_end1 (w.alloc (.cells #[.slice none 0 0, .int .i64 0] 137)) _ _ ?_ ?_ ((Ext.refl w).alloc _) (by simp) (by simp) hx1) <;> clear hx1 B0 k0 f0
       · simp only [beq_iff_eq, beq_eq_false_iff_ne, bne_iff_ne, bne_eq_false_iff_eq] at *
         subst_vars
         unfold twoS wS
         rw [HWD.out, HWS.out]
         repeat (first | rw [if_pos (by omega)] | rw [if_neg (by omega)])
         all_goals rfl
       · have M := MM.out
         subst_vars
         omega)
    | (refine bodyPost_ret (res1 rfl _ _ _ w.heap.size _ rfl (load137 ((B0.put 0 _).put 1 _))) rfl (RHead.pass ?_ B0 hby (((Ext.refl w).alloc _).trans hx1)) <;> clear hx1 B0 k0 f0 hby
       simp only [beq_iff_eq, beq_eq_false_iff_ne, bne_iff_ne, bne_eq_false_iff_eq] at *
       subst_vars
       unfold twoS wS
       rw [HWD.out, HWS.out]
       repeat (first | rw [if_pos (by omega)] | rw [if_neg (by omega)])
       all_goals rfl)
    | (refine bodyPost_ret (res1 rfl _ _ _ w.heap.size _ rfl (load137 (c0 := .slice none 0 0) (c1 := .int .i64 0) (Blk.new w _ 137))) rfl (RHead.mk (l := []) (n := 0) (t := 0) ?_ rfl (Byts.nil _) ((Ext.refl _).alloc _))
       simp only [beq_iff_eq, beq_eq_false_iff_ne, bne_iff_ne, bne_eq_false_iff_eq] at *
       subst_vars
       unfold twoS wS
       rw [HWD.out, HWS.out]
       repeat (first | rw [if_pos (by omega)] | rw [if_neg (by omega)])
       all_goals rfl)
theorem two_B_0_0 (op d s : Int) (w : World) (o1 : op = 17) (hwd : wideS d = 0) (hws : wideS s = 0) (d1 : d < 1 ∨ 16 < d) (s1 : s < 1 ∨ 16 < s) : Calls Tryz.prog 157 #[.int .i64 op, .int .i64 d, .int .i64 s] w (RHead w (twoS op d s)) := by
  have hnd := numS_range d
  have hns := numS_range s
  have MM := Lib.hid (M2.of op d s)
  unfold M2 at MM
  have HWD := Lib.hid hwd; have HWS := Lib.hid hws
  clear hwd hws
  have e1 : (d == 1) = false := by simp; omega
  have e9 : (d == 9) = false := by simp; omega
  have g1 : (s == 1) = false := by simp; omega
  have g9 : (s == 9) = false := by simp; omega
  have ne9 : (d != 9) = true := by simp; omega
  have ng9 : (s != 9) = true := by simp; omega
  subst o1
  go_enter Tryz.func157, Tryz.ntmps157
  go_wp2_with (first
    | (go_at_call 191; ((with_reducible refine (wide_any _ _).mono ?_); (first | rw [HWD.out] | rw [HWS.out] | rw [show wideS 1 = 8 from rfl] | rw [show wideS 9 = 16 from rfl] | rw [show wideS 17 = 0 from rfl] | rw [show wideS 18 = 0 from rfl] | rw [show wideS 19 = 0 from rfl] | rw [show wideS 20 = 0 from rfl]); rintro e w' ⟨rfl, rfl⟩))
    | (go_at_call 193; ((with_reducible refine (num_any _ (by omega) (by omega) _).mono ?_); rintro e w' ⟨rfl, rfl⟩))
    | (go_at_call 195; ((with_reducible refine (mem_any _ _ (by omega) (by omega) _).mono ?_); rintro e w' ⟨rfl, rfl⟩))
    | (go_at_call 192; ((with_reducible refine (rm_any _ _ (by omega) (by omega) _).mono ?_); rintro e w' ⟨rfl, rfl⟩))
    | (go_at_call 194; ((with_reducible refine (places_any _ _ _).mono ?_); rintro e w1 ⟨A, c, rfl, hby, hx1⟩; have B0 := (Blk.new w #[.slice none 0 0, .int .i64 0] 137).ext hx1; have k0 := B0.cell; have f0 := B0.frozen))
    | (go_at_call 159; ((with_reducible refine (of159_any _ _ _ _ _).mono ?_); rintro e w1 ⟨rfl, hx1⟩; have B0 := ((Blk.new w #[.slice none 0 0, .int .i64 0] 137).alloc _).ext hx1; have k0 := B0.cell; have f0 := B0.frozen)))
  all_goals first
    | (refine bodyPost_ret (res1 rfl _ _ _ w.heap.size _ rfl (load137 ((B0.put 0 _).put 1 _))) rfl (head_end2 (w.alloc (.cells #[.slice none 0 0, .int .i64 0] 137)) _ _ ?_ ?_ ?_ ((Ext.refl w).alloc _) (by simp) (by simp) hx1) <;> clear hx1 B0 k0 f0
       · simp only [beq_iff_eq, beq_eq_false_iff_ne, bne_iff_ne, bne_eq_false_iff_eq] at *
         subst_vars
         unfold twoS wS
         rw [HWD.out, HWS.out]
         repeat (first | rw [if_pos (by omega)] | rw [if_neg (by omega)])
         all_goals rfl
       · have M := MM.out
         subst_vars
         first | omega | decide
       · have M := MM.out
         subst_vars
         first | omega | decide)
    | (refine bodyPost_ret (res1 rfl _ _ _ w.heap.size _ rfl (load137 ((B0.put 0 _).put 1 _))) rfl (head_end1 (w.alloc (.cells #[.slice none 0 0, .int .i64 0] 137)) _ _ ?_ ?_ ((Ext.refl w).alloc _) (by simp) (by simp) hx1) <;> clear hx1 B0 k0 f0
       · simp only [beq_iff_eq, beq_eq_false_iff_ne, bne_iff_ne, bne_eq_false_iff_eq] at *
         subst_vars
         unfold twoS wS
         rw [HWD.out, HWS.out]
         repeat (first | rw [if_pos (by omega)] | rw [if_neg (by omega)])
         all_goals rfl
       · have M := MM.out
         subst_vars
         omega)
    | (refine bodyPost_ret (res1 rfl _ _ _ w.heap.size _ rfl (load137 ((B0.put 0 _).put 1 _))) rfl (RHead.pass ?_ B0 hby (((Ext.refl w).alloc _).trans hx1)) <;> clear hx1 B0 k0 f0 hby
       simp only [beq_iff_eq, beq_eq_false_iff_ne, bne_iff_ne, bne_eq_false_iff_eq] at *
       subst_vars
       unfold twoS wS
       rw [HWD.out, HWS.out]
       repeat (first | rw [if_pos (by omega)] | rw [if_neg (by omega)])
       all_goals rfl)
    | (refine bodyPost_ret (res1 rfl _ _ _ w.heap.size _ rfl (load137 (c0 := .slice none 0 0) (c1 := .int .i64 0) (Blk.new w _ 137))) rfl (RHead.mk (l := []) (n := 0) (t := 0) ?_ rfl (Byts.nil _) ((Ext.refl _).alloc _))
       simp only [beq_iff_eq, beq_eq_false_iff_ne, bne_iff_ne, bne_eq_false_iff_eq] at *
       subst_vars
       unfold twoS wS
       rw [HWD.out, HWS.out]
       repeat (first | rw [if_pos (by omega)] | rw [if_neg (by omega)])
       all_goals rfl)
theorem two_C_8_8 (op d s : Int) (w : World) (o1 : op = 30) (hwd : wideS d = 8) (hws : wideS s = 8) (d1 : 1 ≤ d) (d2 : d ≤ 8) (s1 : 1 ≤ s) (s2 : s ≤ 8) : Calls Tryz.prog 157 #[.int .i64 op, .int .i64 d, .int .i64 s] w (RHead w (twoS op d s)) := by
  have hnd := numS_range d
  have hns := numS_range s
  have MM := Lib.hid (M2.of op d s)
  unfold M2 at MM
  have HWD := Lib.hid hwd; have HWS := Lib.hid hws
  clear hwd hws
  have e9 : (d == 9) = false := by simp; omega
  have e17 : (d == 17) = false := by simp; omega
  have e18 : (d == 18) = false := by simp; omega
  have e19 : (d == 19) = false := by simp; omega
  have e20 : (d == 20) = false := by simp; omega
  have g9 : (s == 9) = false := by simp; omega
  have g17 : (s == 17) = false := by simp; omega
  have g18 : (s == 18) = false := by simp; omega
  have g19 : (s == 19) = false := by simp; omega
  have g20 : (s == 20) = false := by simp; omega
  have ne9 : (d != 9) = true := by simp; omega
  have ng9 : (s != 9) = true := by simp; omega
  subst o1
  go_enter Tryz.func157, Tryz.ntmps157
  go_wp2_with (first
    | (go_at_call 191; ((with_reducible refine (wide_any _ _).mono ?_); (first | rw [HWD.out] | rw [HWS.out] | rw [show wideS 1 = 8 from rfl] | rw [show wideS 9 = 16 from rfl] | rw [show wideS 17 = 0 from rfl] | rw [show wideS 18 = 0 from rfl] | rw [show wideS 19 = 0 from rfl] | rw [show wideS 20 = 0 from rfl]); rintro e w' ⟨rfl, rfl⟩))
    | (go_at_call 193; ((with_reducible refine (num_any _ (by omega) (by omega) _).mono ?_); rintro e w' ⟨rfl, rfl⟩))
    | (go_at_call 195; ((with_reducible refine (mem_any _ _ (by omega) (by omega) _).mono ?_); rintro e w' ⟨rfl, rfl⟩))
    | (go_at_call 192; ((with_reducible refine (rm_any _ _ (by omega) (by omega) _).mono ?_); rintro e w' ⟨rfl, rfl⟩))
    | (go_at_call 194; ((with_reducible refine (places_any _ _ _).mono ?_); rintro e w1 ⟨A, c, rfl, hby, hx1⟩; have B0 := (Blk.new w #[.slice none 0 0, .int .i64 0] 137).ext hx1; have k0 := B0.cell; have f0 := B0.frozen))
    | (go_at_call 159; ((with_reducible refine (of159_any _ _ _ _ _).mono ?_); rintro e w1 ⟨rfl, hx1⟩; have B0 := ((Blk.new w #[.slice none 0 0, .int .i64 0] 137).alloc _).ext hx1; have k0 := B0.cell; have f0 := B0.frozen)))
  all_goals first
    | (refine bodyPost_ret (res1 rfl _ _ _ w.heap.size _ rfl (load137 ((B0.put 0 _).put 1 _))) rfl (head_end2 (w.alloc (.cells #[.slice none 0 0, .int .i64 0] 137)) _ _ ?_ ?_ ?_ ((Ext.refl w).alloc _) (by simp) (by simp) hx1) <;> clear hx1 B0 k0 f0
       · simp only [beq_iff_eq, beq_eq_false_iff_ne, bne_iff_ne, bne_eq_false_iff_eq] at *
         subst_vars
         unfold twoS wS
         rw [HWD.out, HWS.out]
         repeat (first | rw [if_pos (by omega)] | rw [if_neg (by omega)])
         all_goals rfl
       · have M := MM.out
         subst_vars
         first | omega | decide
       · have M := MM.out
         subst_vars
         first | omega | decide)
    | (refine bodyPost_ret (res1 rfl _ _ _ w.heap.size _ rfl (load137 ((B0.put 0 _).put 1 _))) rfl (head_end1 (w.alloc (.cells #[.slice none 0 0, .int .i64 0] 137)) _ _ ?_ ?_ ((Ext.refl w).alloc _) (by simp) (by simp) hx1) <;> clear hx1 B0 k0 f0
       · simp only [beq_iff_eq, beq_eq_false_iff_ne, bne_iff_ne, bne_eq_false_iff_eq] at *
         subst_vars
         unfold twoS wS
         rw [HWD.out, HWS.out]
         repeat (first | rw [if_pos (by omega)] | rw [if_neg (by omega)])
         all_goals rfl
       · have M := MM.out
         subst_vars
         omega)
    | (refine bodyPost_ret (res1 rfl _ _ _ w.heap.size _ rfl (load137 ((B0.put 0 _).put 1 _))) rfl (RHead.pass ?_ B0 hby (((Ext.refl w).alloc _).trans hx1)) <;> clear hx1 B0 k0 f0 hby
       simp only [beq_iff_eq, beq_eq_false_iff_ne, bne_iff_ne, bne_eq_false_iff_eq] at *
       subst_vars
       unfold twoS wS
       rw [HWD.out, HWS.out]
       repeat (first | rw [if_pos (by omega)] | rw [if_neg (by omega)])
       all_goals rfl)
    | (refine bodyPost_ret (res1 rfl _ _ _ w.heap.size _ rfl (load137 (c0 := .slice none 0 0) (c1 := .int .i64 0) (Blk.new w _ 137))) rfl (RHead.mk (l := []) (n := 0) (t := 0) ?_ rfl (Byts.nil _) ((Ext.refl _).alloc _))
       simp only [beq_iff_eq, beq_eq_false_iff_ne, bne_iff_ne, bne_eq_false_iff_eq] at *
       subst_vars
       unfold twoS wS
       rw [HWD.out, HWS.out]
       repeat (first | rw [if_pos (by omega)] | rw [if_neg (by omega)])
       all_goals rfl)
theorem two_C_8_16 (op d s : Int) (w : World) (o1 : op = 30) (hwd : wideS d = 8) (hws : wideS s = 16) (d1 : 1 ≤ d) (d2 : d ≤ 8) (s1 : 9 ≤ s) (s2 : s ≤ 16) : Calls Tryz.prog 157 #[.int .i64 op, .int .i64 d, .int .i64 s] w (RHead w (twoS op d s)) := by
  have hnd := numS_range d
  have hns := numS_range s
  have MM := Lib.hid (M2.of op d s)
  unfold M2 at MM
  have HWD := Lib.hid hwd; have HWS := Lib.hid hws
  clear hwd hws
  have e9 : (d == 9) = false := by simp; omega
  have e17 : (d == 17) = false := by simp; omega
  have e18 : (d == 18) = false := by simp; omega
  have e19 : (d == 19) = false := by simp; omega
  have e20 : (d == 20) = false := by simp; omega
  have g1 : (s == 1) = false := by simp; omega
  have g17 : (s == 17) = false := by simp; omega
  have g18 : (s == 18) = false := by simp; omega
  have g19 : (s == 19) = false := by simp; omega
  have g20 : (s == 20) = false := by simp; omega
  have ne9 : (d != 9) = true := by simp; omega
  subst o1
  go_enter Tryz.func157, Tryz.ntmps157
  go_wp2_with (first
    | (go_at_call 191; ((with_reducible refine (wide_any _ _).mono ?_); (first | rw [HWD.out] | rw [HWS.out] | rw [show wideS 1 = 8 from rfl] | rw [show wideS 9 = 16 from rfl] | rw [show wideS 17 = 0 from rfl] | rw [show wideS 18 = 0 from rfl] | rw [show wideS 19 = 0 from rfl] | rw [show wideS 20 = 0 from rfl]); rintro e w' ⟨rfl, rfl⟩))
    | (go_at_call 193; ((with_reducible refine (num_any _ (by omega) (by omega) _).mono ?_); rintro e w' ⟨rfl, rfl⟩))
    | (go_at_call 195; ((with_reducible refine (mem_any _ _ (by omega) (by omega) _).mono ?_); rintro e w' ⟨rfl, rfl⟩))
    | (go_at_call 192; ((with_reducible refine (rm_any _ _ (by omega) (by omega) _).mono ?_); rintro e w' ⟨rfl, rfl⟩))
    | (go_at_call 194; ((with_reducible refine (places_any _ _ _).mono ?_); rintro e w1 ⟨A, c, rfl, hby, hx1⟩; have B0 := (Blk.new w #[.slice none 0 0, .int .i64 0] 137).ext hx1; have k0 := B0.cell; have f0 := B0.frozen))
    | (go_at_call 159; ((with_reducible refine (of159_any _ _ _ _ _).mono ?_); rintro e w1 ⟨rfl, hx1⟩; have B0 := ((Blk.new w #[.slice none 0 0, .int .i64 0] 137).alloc _).ext hx1; have k0 := B0.cell; have f0 := B0.frozen)))
  all_goals first
    | (refine bodyPost_ret (res1 rfl _ _ _ w.heap.size _ rfl (load137 ((B0.put 0 _).put 1 _))) rfl (head_end2 (w.alloc (.cells #[.slice none 0 0, .int .i64 0] 137)) _ _ ?_ ?_ ?_ ((Ext.refl w).alloc _) (by simp) (by simp) hx1) <;> clear hx1 B0 k0 f0
       · simp only [beq_iff_eq, beq_eq_false_iff_ne, bne_iff_ne, bne_eq_false_iff_eq] at *
         subst_vars
         unfold twoS wS
         rw [HWD.out, HWS.out]
         repeat (first | rw [if_pos (by omega)] | rw [if_neg (by omega)])
         all_goals rfl
       · have M := MM.out
         subst_vars
         first | omega | decide
       · have M := MM.out
         subst_vars
         first | omega | decide)
    | (refine bodyPost_ret (res1 rfl _ _ _ w.heap.size _ rfl (load137 ((B0.put 0 _).put 1 _))) rfl (head_end1 (w.alloc (.cells #[.slice none 0 0, .int .i64 0] 137)) _ _ ?_ ?_ ((Ext.refl w).alloc _) (by simp) (by simp) hx1) <;> clear hx1 B0 k0 f0
       · simp only [beq_iff_eq, beq_eq_false_iff_ne, bne_iff_ne, bne_eq_false_iff_eq] at *
         subst_vars
         unfold twoS wS
         rw [HWD.out, HWS.out]
         repeat (first | rw [if_pos (by omega)] | rw [if_neg (by omega)])
         all_goals rfl
       · have M := MM.out
         subst_vars
         omega)
    | (refine bodyPost_ret (res1 rfl _ _ _ w.heap.size _ rfl (load137 ((B0.put 0 _).put 1 _))) rfl (RHead.pass ?_ B0 hby (((Ext.refl w).alloc _).trans hx1)) <;> clear hx1 B0 k0 f0 hby
       simp only [beq_iff_eq, beq_eq_false_iff_ne, bne_iff_ne, bne_eq_false_iff_eq] at *
       subst_vars
       unfold twoS wS
       rw [HWD.out, HWS.out]
       repeat (first | rw [if_pos (by omega)] | rw [if_neg (by omega)])
       all_goals rfl)
    | (refine bodyPost_ret (res1 rfl _ _ _ w.heap.size _ rfl (load137 (c0 := .slice none 0 0) (c1 := .int .i64 0) (Blk.new w _ 137))) rfl (RHead.mk (l := []) (n := 0) (t := 0) ?_ rfl (Byts.nil _) ((Ext.refl _).alloc _))
       simp only [beq_iff_eq, beq_eq_false_iff_ne, bne_iff_ne, bne_eq_false_iff_eq] at *
       subst_vars
       unfold twoS wS
       rw [HWD.out, HWS.out]
       repeat (first | rw [if_pos (by omega)] | rw [if_neg (by omega)])
       all_goals rfl)
theorem two_C_8_0 (op d s : Int) (w : World) (o1 : op = 30) (hwd : wideS d = 8) (hws : wideS s = 0) (d1 : 1 ≤ d) (d2 : d ≤ 8) (s1 : s < 1 ∨ 16 < s) : Calls Tryz.prog 157 #[.int .i64 op, .int .i64 d, .int .i64 s] w (RHead w (twoS op d s)) := by
  have hnd := numS_range d
  have hns := numS_range s
  have MM := Lib.hid (M2.of op d s)
  unfold M2 at MM
  have HWD := Lib.hid hwd; have HWS := Lib.hid hws
  clear hwd hws
  have e9 : (d == 9) = false := by simp; omega
  have e17 : (d == 17) = false := by simp; omega
  have e18 : (d == 18) = false := by simp; omega
  have e19 : (d == 19) = false := by simp; omega
  have e20 : (d == 20) = false := by simp; omega
  have g1 : (s == 1) = false := by simp; omega
  have g9 : (s == 9) = false := by simp; omega
  have ne9 : (d != 9) = true := by simp; omega
  have ng9 : (s != 9) = true := by simp; omega
  subst o1
  go_enter Tryz.func157, Tryz.ntmps157
  go_wp2_with (first
    | (go_at_call 191; ((with_reducible refine (wide_any _ _).mono ?_); (first | rw [HWD.out] | rw [HWS.out] | rw [show wideS 1 = 8 from rfl] | rw [show wideS 9 = 16 from rfl] | rw [show wideS 17 = 0 from rfl] | rw [show wideS 18 = 0 from rfl] | rw [show wideS 19 = 0 from rfl] | rw [show wideS 20 = 0 from rfl]); rintro e w' ⟨rfl, rfl⟩))
    | (go_at_call 193; ((with_reducible refine (num_any _ (by omega) (by omega) _).mono ?_); rintro e w' ⟨rfl, rfl⟩))
    | (go_at_call 195; ((with_reducible refine (mem_any _ _ (by omega) (by omega) _).mono ?_); rintro e w' ⟨rfl, rfl⟩))
    | (go_at_call 192; ((with_reducible refine (rm_any _ _ (by omega) (by omega) _).mono ?_); rintro e w' ⟨rfl, rfl⟩))
    | (go_at_call 194; ((with_reducible refine (places_any _ _ _).mono ?_); rintro e w1 ⟨A, c, rfl, hby, hx1⟩; have B0 := (Blk.new w #[.slice none 0 0, .int .i64 0] 137).ext hx1; have k0 := B0.cell; have f0 := B0.frozen))
    | (go_at_call 159; ((with_reducible refine (of159_any _ _ _ _ _).mono ?_); rintro e w1 ⟨rfl, hx1⟩; have B0 := ((Blk.new w #[.slice none 0 0, .int .i64 0] 137).alloc _).ext hx1; have k0 := B0.cell; have f0 := B0.frozen)))
  all_goals first
    | (refine bodyPost_ret (res1 rfl _ _ _ w.heap.size _ rfl (load137 ((B0.put 0 _).put 1 _))) rfl (head_end2 (w.alloc (.cells #[.slice none 0 0, .int .i64 0] 137)) _ _ ?_ ?_ ?_ ((Ext.refl w).alloc _) (by simp) (by simp) hx1) <;> clear hx1 B0 k0 f0
       · simp only [beq_iff_eq, beq_eq_false_iff_ne, bne_iff_ne, bne_eq_false_iff_eq] at *
         subst_vars
         unfold twoS wS
         rw [HWD.out, HWS.out]
         repeat (first | rw [if_pos (by omega)] | rw [if_neg (by omega)])
         all_goals rfl
       · have M := MM.out
         subst_vars
         first | omega | decide
       · have M := MM.out
         subst_vars
         first | omega | decide)
    | (refine bodyPost_ret (res1 rfl _ _ _ w.heap.size _ rfl (load137 ((B0.put 0 _).put 1 _))) rfl (head_end1 (w.alloc (.cells #[.slice none 0 0, .int .i64 0] 137)) _ _ ?_ ?_ ((Ext.refl w).alloc _) (by simp) (by simp) hx1) <;> clear hx1 B0 k0 f0
       · simp only [beq_iff_eq, beq_eq_false_iff_ne, bne_iff_ne, bne_eq_false_iff_eq] at *
         subst_vars
         unfold twoS wS
         rw [HWD.out, HWS.out]
         repeat (first | rw [if_pos (by omega)] | rw [if_neg (by omega)])
         all_goals rfl
       · have M := MM.out
         subst_vars
         omega)
    | (refine bodyPost_ret (res1 rfl _ _ _ w.heap.size _ rfl (load137 ((B0.put 0 _).put 1 _))) rfl (RHead.pass ?_ B0 hby (((Ext.refl w).alloc _).trans hx1)) <;> clear hx1 B0 k0 f0 hby
       simp only [beq_iff_eq, beq_eq_false_iff_ne, bne_iff_ne, bne_eq_false_iff_eq] at *
       subst_vars
       unfold twoS wS
       rw [HWD.out, HWS.out]
       repeat (first | rw [if_pos (by omega)] | rw [if_neg (by omega)])
       all_goals rfl)
    | (refine bodyPost_ret (res1 rfl _ _ _ w.heap.size _ rfl (load137 (c0 := .slice none 0 0) (c1 := .int .i64 0) (Blk.new w _ 137))) rfl (RHead.mk (l := []) (n := 0) (t := 0) ?_ rfl (Byts.nil _) ((Ext.refl _).alloc _))
       simp only [beq_iff_eq, beq_eq_false_iff_ne, bne_iff_ne, bne_eq_false_iff_eq] at *
       subst_vars
       unfold twoS wS
       rw [HWD.out, HWS.out]
       repeat (first | rw [if_pos (by omega)] | rw [if_neg (by omega)])
       all_goals rfl)
theorem two_C_16_8 (op d s : Int) (w : World) (o1 : op = 30) (hwd : wideS d = 16) (hws : wideS s = 8) (d1 : 9 ≤ d) (d2 : d ≤ 16) (s1 : 1 ≤ s) (s2 : s ≤ 8) : Calls Tryz.prog 157 #[.int .i64 op, .int .i64 d, .int .i64 s] w (RHead w (twoS op d s)) := by
  have hnd := numS_range d
  have hns := numS_range s
  have MM := Lib.hid (M2.of op d s)
  unfold M2 at MM
  have HWD := Lib.hid hwd; have HWS := Lib.hid hws
  clear hwd hws
  have e1 : (d == 1) = false := by simp; omega
  have e17 : (d == 17) = false := by simp; omega
  have e18 : (d == 18) = false := by simp; omega
  have e19 : (d == 19) = false := by simp; omega
  have e20 : (d == 20) = false := by simp; omega
  have g9 : (s == 9) = false := by simp; omega
  have g17 : (s == 17) = false := by simp; omega
  have g18 : (s == 18) = false := by simp; omega
  have g19 : (s == 19) = false := by simp; omega
  have g20 : (s == 20) = false := by simp; omega
  have ng9 : (s != 9) = true := by simp; omega
  subst o1
  go_enter Tryz.func157, Tryz.ntmps157
  go_wp2_with (first
    | (go_at_call 191; ((with_reducible refine (wide_any _ _).mono ?_); (first | rw [HWD.out] | rw [HWS.out] | rw [show wideS 1 = 8 from rfl] | rw [show wideS 9 = 16 from rfl] | rw [show wideS 17 = 0 from rfl] | rw [show wideS 18 = 0 from rfl] | rw [show wideS 19 = 0 from rfl] | rw [show wideS 20 = 0 from rfl]); rintro e w' ⟨rfl, rfl⟩))
    | (go_at_call 193; ((with_reducible refine (num_any _ (by omega) (by omega) _).mono ?_); rintro e w' ⟨rfl, rfl⟩))
    | (go_at_call 195; ((with_reducible refine (mem_any _ _ (by omega) (by omega) _).mono ?_); rintro e w' ⟨rfl, rfl⟩))
    | (go_at_call 192; ((with_reducible refine (rm_any _ _ (by omega) (by omega) _).mono ?_); rintro e w' ⟨rfl, rfl⟩))
    | (go_at_call 194; ((with_reducible refine (places_any _ _ _).mono ?_); rintro e w1 ⟨A, c, rfl, hby, hx1⟩; have B0 := (Blk.new w #[.slice none 0 0, .int .i64 0] 137).ext hx1; have k0 := B0.cell; have f0 := B0.frozen))
    | (go_at_call 159; ((with_reducible refine (of159_any _ _ _ _ _).mono ?_); rintro e w1 ⟨rfl, hx1⟩; have B0 := ((Blk.new w #[.slice none 0 0, .int .i64 0] 137).alloc _).ext hx1; have k0 := B0.cell; have f0 := B0.frozen)))
  all_goals first
    | (refine bodyPost_ret (res1 rfl _ _ _ w.heap.size _ rfl (load137 ((B0.put 0 _).put 1 _))) rfl (head_end2 (w.alloc (.cells #[.slice none 0 0, .int .i64 0] 137)) _ _ ?_ ?_ ?_ ((Ext.refl w).alloc _) (by simp) (by simp) hx1) <;> clear hx1 B0 k0 f0
       · simp only [beq_iff_eq, beq_eq_false_iff_ne, bne_iff_ne, bne_eq_false_iff_eq] at *
         subst_vars
         unfold twoS wS
         rw [HWD.out, HWS.out]
         repeat (first | rw [if_pos (by omega)] | rw [if_neg (by omega)])
         all_goals rfl
       · have M := MM.out
         subst_vars
         first | omega | decide
       · have M := MM.out
         subst_vars
         first | omega | decide)
    | (refine bodyPost_ret (res1 rfl _ _ _ w.heap.size _ rfl (load137 ((B0.put 0 _).put 1 _))) rfl (head_end1 (w.alloc (.cells #[.slice none 0 0, .int .i64 0] 137)) _ _ ?_ ?_ ((Ext.refl w).alloc _) (by simp) (by simp) hx1) <;> clear hx1 B0 k0 f0
       · simp only [beq_iff_eq, beq_eq_false_iff_ne, bne_iff_ne, bne_eq_false_iff_eq] at *
         subst_vars
         unfold twoS wS
         rw [HWD.out, HWS.out]
         repeat (first | rw [if_pos (by omega)] | rw [if_neg (by omega)])
         all_goals rfl
       · have M := MM.out
         subst_vars
         omega)
    | (refine bodyPost_ret (res1 rfl _ _ _ w.heap.size _ rfl (load137 ((B0.put 0 _).put 1 _))) rfl (RHead.pass ?_ B0 hby (((Ext.refl w).alloc _).trans hx1)) <;> clear hx1 B0 k0 f0 hby
       simp only [beq_iff_eq, beq_eq_false_iff_ne, bne_iff_ne, bne_eq_false_iff_eq] at *
       subst_vars
       unfold twoS wS
       rw [HWD.out, HWS.out]
       repeat (first | rw [if_pos (by omega)] | rw [if_neg (by omega)])
       all_goals rfl)
    | (refine bodyPost_ret (res1 rfl _ _ _ w.heap.size _ rfl (load137 (c0 := .slice none 0 0) (c1 := .int .i64 0) (Blk.new w _ 137))) rfl (RHead.mk (l := []) (n := 0) (t := 0) ?_ rfl (Byts.nil _) ((Ext.refl _).alloc _))
       simp only [beq_iff_eq, beq_eq_false_iff_ne, bne_iff_ne, bne_eq_false_iff_eq] at *
       subst_vars
       unfold twoS wS
       rw [HWD.out, HWS.out]
       repeat (first | rw [if_pos (by omega)] | rw [if_neg (by omega)])
       all_goals rfl)
theorem two_C_16_16 (op d s : Int) (w : World) (o1 : op = 30) (hwd : wideS d = 16) (hws : wideS s = 16) (d1 : 9 ≤ d) (d2 : d ≤ 16) (s1 : 9 ≤ s) (s2 : s ≤ 16) : Calls Tryz.prog 157 #[.int .i64 op, .int .i64 d, .int .i64 s] w (RHead w (twoS op d s)) := by
  have hnd := numS_range d
  have hns := numS_range s
  have MM := Lib.hid (M2.of op d s)
  unfold M2 at MM
  have HWD := Lib.hid hwd; have HWS := Lib.hid hws
  clear hwd hws
  have e1 : (d == 1) = false := by simp; omega
  have e17 : (d == 17) = false := by simp; omega
  have e18 : (d == 18) = false := by simp; omega
  have e19 : (d == 19) = false := by simp; omega
  have e20 : (d == 20) = false := by simp; omega
  have g1 : (s == 1) = false := by simp; omega
  have g17 : (s == 17) = false := by simp; omega
  have g18 : (s == 18) = false := by simp; omega
  have g19 : (s == 19) = false := by simp; omega
  have g20 : (s == 20) = false := by simp; omega
  subst o1
  go_enter Tryz.func157, Tryz.ntmps157
  go_wp2_with (first
    | (go_at_call 191; ((with_reducible refine (wide_any _ _).mono ?_); (first | rw [HWD.out] | rw [HWS.out] | rw [show wideS 1 = 8 from rfl] | rw [show wideS 9 = 16 from rfl] | rw [show wideS 17 = 0 from rfl] | rw [show wideS 18 = 0 from rfl] | rw [show wideS 19 = 0 from rfl] | rw [show wideS 20 = 0 from rfl]); rintro e w' ⟨rfl, rfl⟩))
    | (go_at_call 193; ((with_reducible refine (num_any _ (by omega) (by omega) _).mono ?_); rintro e w' ⟨rfl, rfl⟩))
    | (go_at_call 195; ((with_reducible refine (mem_any _ _ (by omega) (by omega) _).mono ?_); rintro e w' ⟨rfl, rfl⟩))
    | (go_at_call 192; ((with_reducible refine (rm_any _ _ (by omega) (by omega) _).mono ?_); rintro e w' ⟨rfl, rfl⟩))
    | (go_at_call 194; ((with_reducible refine (places_any _ _ _).mono ?_); rintro e w1 ⟨A, c, rfl, hby, hx1⟩; have B0 := (Blk.new w #[.slice none 0 0, .int .i64 0] 137).ext hx1; have k0 := B0.cell; have f0 := B0.frozen))
    | (go_at_call 159; ((with_reducible refine (of159_any _ _ _ _ _).mono ?_); rintro e w1 ⟨rfl, hx1⟩; have B0 := ((Blk.new w #[.slice none 0 0, .int .i64 0] 137).alloc _).ext hx1; have k0 := B0.cell; have f0 := B0.frozen)))
  all_goals first
    | (refine bodyPost_ret (res1 rfl _ _ _ w.heap.size _ rfl (load137 ((B0.put 0 _).put 1 _))) rfl (head_end2 (w.alloc (.cells #[.slice none 0 0, .int .i64 0] 137)) _ _ ?_ ?_ ?_ ((Ext.refl w).alloc _) (by simp) (by simp) hx1) <;> clear hx1 B0 k0 f0
       · simp only [beq_iff_eq, beq_eq_false_iff_ne, bne_iff_ne, bne_eq_false_iff_eq] at *
         subst_vars
         unfold twoS wS
         rw [HWD.out, HWS.out]
         repeat (first | rw [if_pos (by omega)] | rw [if_neg (by omega)])
         all_goals rfl
       · have M := MM.out
         subst_vars
         first | omega | decide
       · have M := MM.out
         subst_vars
         first | omega | decide)
    | (refine bodyPost_ret (res1 rfl _ _ _ w.heap.size _ rfl (load137 ((B0.put 0 _).put 1 _))) rfl (head_end1 (w.alloc (.cells #[.slice none 0 0, .int .i64 0] 137)) _ _ ?_ ?_ ((Ext.refl w).alloc _) (by simp) (by simp) hx1) <;> clear hx1 B0 k0 f0
       · simp only [beq_iff_eq, beq_eq_false_iff_ne, bne_iff_ne, bne_eq_false_iff_eq] at *
         subst_vars
         unfold twoS wS
         rw [HWD.out, HWS.out]
         repeat (first | rw [if_pos (by omega)] | rw [if_neg (by omega)])
         all_goals rfl
       · have M := MM.out
         subst_vars
         omega)
    | (refine bodyPost_ret (res1 rfl _ _ _ w.heap.size _ rfl (load137 ((B0.put 0 _).put 1 _))) rfl (RHead.pass ?_ B0 hby (((Ext.refl w).alloc _).trans hx1)) <;> clear hx1 B0 k0 f0 hby
       simp only [beq_iff_eq, beq_eq_false_iff_ne, bne_iff_ne, bne_eq_false_iff_eq] at *
       subst_vars
       unfold twoS wS
       rw [HWD.out, HWS.out]
       repeat (first | rw [if_pos (by omega)] | rw [if_neg (by omega)])
       all_goals rfl)
    | (refine bodyPost_ret (res1 rfl _ _ _ w.heap.size _ rfl (load137 (c0 := .slice none 0 0) (c1 := .int .i64 0) (Blk.new w _ 137))) rfl (RHead.mk (l := []) (n := 0) (t := 0) ?_ rfl (Byts.nil _) ((Ext.refl _).alloc _))
       simp only [beq_iff_eq, beq_eq_false_iff_ne, bne_iff_ne, bne_eq_false_iff_eq] at *
       subst_vars
       unfold twoS wS
       rw [HWD.out, HWS.out]
       repeat (first | rw [if_pos (by omega)] | rw [if_neg (by omega)])
       all_goals rfl)
theorem two_C_16_0 (op d s : Int) (w : World) (o1 : op = 30) (hwd : wideS d = 16) (hws : wideS s = 0) (d1 : 9 ≤ d) (d2 : d ≤ 16) (s1 : s < 1 ∨ 16 < s) : Calls Tryz.prog 157 #[.int .i64 op, .int .i64 d, .int .i64 s] w (RHead w (twoS op d s)) := by
  have hnd := numS_range d
  have hns := numS_range s
  have MM := Lib.hid (M2.of op d s)
  unfold M2 at MM
  have HWD := Lib.hid hwd; have HWS := Lib.hid hws
  clear hwd hws
  have e1 : (d == 1) = false := by simp; omega
  have e17 : (d == 17) = false := by simp; omega
  have e18 : (d == 18) = false := by simp; omega
  have e19 : (d == 19) = false := by simp; omega
  have e20 : (d == 20) = false := by simp; omega
  have g1 : (s == 1) = false := by simp; omega
  have g9 : (s == 9) = false := by simp; omega
  have ng9 : (s != 9) = true := by simp; omega
  subst o1
  go_enter Tryz.func157, Tryz.ntmps157
  go_wp2_with (first
    | (go_at_call 191; ((with_reducible refine (wide_any _ _).mono ?_); (first | rw [HWD.out] | rw [HWS.out] | rw [show wideS 1 = 8 from rfl] | rw [show wideS 9 = 16 from rfl] | rw [show wideS 17 = 0 from rfl] | rw [show wideS 18 = 0 from rfl] | rw [show wideS 19 = 0 from rfl] | rw [show wideS 20 = 0 from rfl]); rintro e w' ⟨rfl, rfl⟩))
    | (go_at_call 193; ((with_reducible refine (num_any _ (by omega) (by omega) _).mono ?_); rintro e w' ⟨rfl, rfl⟩))
    | (go_at_call 195; ((with_reducible refine (mem_any _ _ (by omega) (by omega) _).mono ?_); rintro e w' ⟨rfl, rfl⟩))
    | (go_at_call 192; ((with_reducible refine (rm_any _ _ (by omega) (by omega) _).mono ?_); rintro e w' ⟨rfl, rfl⟩))
    | (go_at_call 194; ((with_reducible refine (places_any _ _ _).mono ?_); rintro e w1 ⟨A, c, rfl, hby, hx1⟩; have B0 := (Blk.new w #[.slice none 0 0, .int .i64 0] 137).ext hx1; have k0 := B0.cell; have f0 := B0.frozen))
    | (go_at_call 159; ((with_reducible refine (of159_any _ _ _ _ _).mono ?_); rintro e w1 ⟨rfl, hx1⟩; have B0 := ((Blk.new w #[.slice none 0 0, .int .i64 0] 137).alloc _).ext hx1; have k0 := B0.cell; have f0 := B0.frozen)))
  all_goals first
    | (refine bodyPost_ret (res1 rfl _ _ _ w.heap.size _ rfl (load137 ((B0.put 0 _).put 1 _))) rfl (head_end2 (w.alloc (.cells #[.slice none 0 0, .int .i64 0] 137)) _ _ ?_ ?_ ?_ ((Ext.refl w).alloc _) (by simp) (by simp) hx1) <;> clear hx1 B0 k0 f0
       · simp only [beq_iff_eq, beq_eq_false_iff_ne, bne_iff_ne, bne_eq_false_iff_eq] at *
         subst_vars
         unfold twoS wS
         rw [HWD.out, HWS.out]
         repeat (first | rw [if_pos (by omega)] | rw [if_neg (by omega)])
         all_goals rfl
       · have M := MM.out
         subst_vars
         first | omega | decide
       · have M := MM.out
         subst_vars
         first | omega | decide)
    | (refine bodyPost_ret (res1 rfl _ _ _ w.heap.size _ rfl (load137 ((B0.put 0 _).put 1 _))) rfl (head_end1 (w.alloc (.cells #[.slice none 0 0, .int .i64 0] 137)) _ _ ?_ ?_ ((Ext.refl w).alloc _) (by simp) (by simp) hx1) <;> clear hx1 B0 k0 f0
       · simp only [beq_iff_eq, beq_eq_false_iff_ne, bne_iff_ne, bne_eq_false_iff_eq] at *
         subst_vars
         unfold twoS wS
         rw [HWD.out, HWS.out]
         repeat (first | rw [if_pos (by omega)] | rw [if_neg (by omega)])
         all_goals rfl
       · have M := MM.out
         subst_vars
         omega)
    | (refine bodyPost_ret (res1 rfl _ _ _ w.heap.size _ rfl (load137 ((B0.put 0 _).put 1 _))) rfl (RHead.pass ?_ B0 hby (((Ext.refl w).alloc _).trans hx1)) <;> clear hx1 B0 k0 f0 hby
       simp only [beq_iff_eq, beq_eq_false_iff_ne, bne_iff_ne, bne_eq_false_iff_eq] at *
       subst_vars
       unfold twoS wS
       rw [HWD.out, HWS.out]
       repeat (first | rw [if_pos (by omega)] | rw [if_neg (by omega)])
       all_goals rfl)
    | (refine bodyPost_ret (res1 rfl _ _ _ w.heap.size _ rfl (load137 (c0 := .slice none 0 0) (c1 := .int .i64 0) (Blk.new w _ 137))) rfl (RHead.mk (l := []) (n := 0) (t := 0) ?_ rfl (Byts.nil _) ((Ext.refl _).alloc _))
       simp only [beq_iff_eq, beq_eq_false_iff_ne, bne_iff_ne, bne_eq_false_iff_eq] at *
       subst_vars
       unfold twoS wS
       rw [HWD.out, HWS.out]
       repeat (first | rw [if_pos (by omega)] | rw [if_neg (by omega)])
       all_goals rfl)
theorem two_C_0_8 (op d s : Int) (w : World) (o1 : op = 30) (hwd : wideS d = 0) (hws : wideS s = 8) (d1 : d < 1 ∨ 16 < d) (s1 : 1 ≤ s) (s2 : s ≤ 8) : Calls Tryz.prog 157 #[.int .i64 op, .int .i64 d, .int .i64 s] w (RHead w (twoS op d s)) := by
  have hnd := numS_range d
  have hns := numS_range s
  have MM := Lib.hid (M2.of op d s)
  unfold M2 at MM
  have HWD := Lib.hid hwd; have HWS := Lib.hid hws
  clear hwd hws
  have e1 : (d == 1) = false := by simp; omega
  have e9 : (d == 9) = false := by simp; omega
  have g9 : (s == 9) = false := by simp; omega
  have g17 : (s == 17) = false := by simp; omega
  have g18 : (s == 18) = false := by simp; omega
  have g19 : (s == 19) = false := by simp; omega
  have g20 : (s == 20) = false := by simp; omega
  have ne9 : (d != 9) = true := by simp; omega
  have ng9 : (s != 9) = true := by simp; omega
  subst o1
  go_enter Tryz.func157, Tryz.ntmps157
  go_wp2_with (first
    | (go_at_call 191; ((with_reducible refine (wide_any _ _).mono ?_); (first | rw [HWD.out] | rw [HWS.out] | rw [show wideS 1 = 8 from rfl] | rw [show wideS 9 = 16 from rfl] | rw [show wideS 17 = 0 from rfl] | rw [show wideS 18 = 0 from rfl] | rw [show wideS 19 = 0 from rfl] | rw [show wideS 20 = 0 from rfl]); rintro e w' ⟨rfl, rfl⟩))
    | (go_at_call 193; ((with_reducible refine (num_any _ (by omega) (by omega) _).mono ?_); rintro e w' ⟨rfl, rfl⟩))
    | (go_at_call 195; ((with_reducible refine (mem_any _ _ (by omega) (by omega) _).mono ?_); rintro e w' ⟨rfl, rfl⟩))
    | (go_at_call 192; ((with_reducible refine (rm_any _ _ (by omega) (by omega) _).mono ?_); rintro e w' ⟨rfl, rfl⟩))
    | (go_at_call 194; ((with_reducible refine (places_any _ _ _).mono ?_); rintro e w1 ⟨A, c, rfl, hby, hx1⟩; have B0 := (Blk.new w #[.slice none 0 0, .int .i64 0] 137).ext hx1; have k0 := B0.cell; have f0 := B0.frozen))
    | (go_at_call 159; ((with_reducible refine (of159_any _ _ _ _ _).mono ?_); rintro e w1 ⟨rfl, hx1⟩; have B0 := ((Blk.new w #[.slice none 0 0, .int .i64 0] 137).alloc _).ext hx1; have k0 := B0.cell; have f0 := B0.frozen)))
  all_goals first
    | (refine bodyPost_ret (res1 rfl _ _ _ w.heap.size _ rfl (load137 ((B0.put 0 _).put 1 _))) rfl (head_end2 (w.alloc (.cells #[.slice none 0 0, .int .i64 0] 137)) _ _ ?_ ?_ ?_ ((Ext.refl w).alloc _) (by simp) (by simp) hx1) <;> clear hx1 B0 k0 f0
       · simp only [beq_iff_eq, beq_eq_false_iff_ne, bne_iff_ne, bne_eq_false_iff_eq] at *
         subst_vars
         unfold twoS wS
         rw [HWD.out, HWS.out]
         repeat (first | rw [if_pos (by omega)] | rw [if_neg (by omega)])
         all_goals rfl
       · have M := MM.out
         subst_vars
         first | omega | decide
       · have M := MM.out
         subst_vars
         first | omega | decide)
    | (refine bodyPost_ret (res1 rfl _ _ _ w.heap.size _ rfl (load137 ((B0.put 0 _).put 1 _))) rfl (head_end1 (w.alloc (.cells #[.slice none 0 0, .int .i64 0] 137)) _ _ ?_ ?_ ((Ext.refl w).alloc _) (by simp) (by simp) hx1) <;> clear hx1 B0 k0 f0
       · simp only [beq_iff_eq, beq_eq_false_iff_ne, bne_iff_ne, bne_eq_false_iff_eq] at *
         subst_vars
         unfold twoS wS
         rw [HWD.out, HWS.out]
         repeat (first | rw [if_pos (by omega)] | rw [if_neg (by omega)])
         all_goals rfl
       · have M := MM.out
         subst_vars
         omega)
    | (refine bodyPost_ret (res1 rfl _ _ _ w.heap.size _ rfl (load137 ((B0.put 0 _).put 1 _))) rfl (RHead.pass ?_ B0 hby (((Ext.refl w).alloc _).trans hx1)) <;> clear hx1 B0 k0 f0 hby
       simp only [beq_iff_eq, beq_eq_false_iff_ne, bne_iff_ne, bne_eq_false_iff_eq] at *
       subst_vars
       unfold twoS wS
       rw [HWD.out, HWS.out]
       repeat (first | rw [if_pos (by omega)] | rw [if_neg (by omega)])
       all_goals rfl)
    | (refine bodyPost_ret (res1 rfl _ _ _ w.heap.size _ rfl (load137 (c0 := .slice none 0 0) (c1 := .int .i64 0) (Blk.new w _ 137))) rfl (RHead.mk (l := []) (n := 0) (t := 0) ?_ rfl (Byts.nil _) ((Ext.refl _).alloc _))
       simp only [beq_iff_eq, beq_eq_false_iff_ne, bne_iff_ne, bne_eq_false_iff_eq] at *
       subst_vars
       unfold twoS wS
       rw [HWD.out, HWS.out]
       repeat (first | rw [if_pos (by omega)] | rw [if_neg (by omega)])
       all_goals rfl)
theorem two_C_0_16 (op d s : Int) (w : World) (o1 : op = 30) (hwd : wideS d = 0) (hws : wideS s = 16) (d1 : d < 1 ∨ 16 < d) (s1 : 9 ≤ s) (s2 : s ≤ 16) : Calls Tryz.prog 157 #[.int .i64 op, .int .i64 d, .int .i64 s] w (RHead w (twoS op d s)) := by
  have hnd := numS_range d
  have hns := numS_range s
  have MM := Lib.hid (M2.of op d s)
  unfold M2 at MM
  have HWD := Lib.hid hwd; have HWS := Lib.hid hws
  clear hwd hws
  have e1 : (d == 1) = false := by simp; omega
  have e9 : (d == 9) = false := by simp; omega
  have g1 : (s == 1) = false := by simp; omega
  have g17 : (s == 17) = false := by simp; omega
  have g18 : (s == 18) = false := by simp; omega
  have g19 : (s == 19) = false := by simp; omega
  have g20 : (s == 20) = false := by simp; omega
  have ne9 : (d != 9) = true := by simp; omega
  subst o1
  go_enter Tryz.func157, Tryz.ntmps157
  go_wp2_with (first
    | (go_at_call 191; ((with_reducible refine (wide_any _ _).mono ?_); (first | rw [HWD.out] | rw [HWS.out] | rw [show wideS 1 = 8 from rfl] | rw [show wideS 9 = 16 from rfl] | rw [show wideS 17 = 0 from rfl] | rw [show wideS 18 = 0 from rfl] | rw [show wideS 19 = 0 from rfl] | rw [show wideS 20 = 0 from rfl]); rintro e w' ⟨rfl, rfl⟩))
    | (go_at_call 193; ((with_reducible refine (num_any _ (by omega) (by omega) _).mono ?_); rintro e w' ⟨rfl, rfl⟩))
    | (go_at_call 195; ((with_reducible refine (mem_any _ _ (by omega) (by omega) _).mono ?_); rintro e w' ⟨rfl, rfl⟩))
    | (go_at_call 192; ((with_reducible refine (rm_any _ _ (by omega) (by omega) _).mono ?_); rintro e w' ⟨rfl, rfl⟩))
    | (go_at_call 194; ((with_reducible refine (places_any _ _ _).mono ?_); rintro e w1 ⟨A, c, rfl, hby, hx1⟩; have B0 := (Blk.new w #[.slice none 0 0, .int .i64 0] 137).ext hx1; have k0 := B0.cell; have f0 := B0.frozen))
    | (go_at_call 159; ((with_reducible refine (of159_any _ _ _ _ _).mono ?_); rintro e w1 ⟨rfl, hx1⟩; have B0 := ((Blk.new w #[.slice none 0 0, .int .i64 0] 137).alloc _).ext hx1; have k0 := B0.cell; have f0 := B0.frozen)))
  all_goals first
    | (refine bodyPost_ret (res1 rfl _ _ _ w.heap.size _ rfl (load137 ((B0.put 0 _).put 1 _))) rfl (head_end2 (w.alloc (.cells #[.slice none 0 0, .int .i64 0] 137)) _ _ ?_ ?_ ?_ ((Ext.refl w).alloc _) (by simp) (by simp) hx1) <;> clear hx1 B0 k0 f0
       · simp only [beq_iff_eq, beq_eq_false_iff_ne, bne_iff_ne, bne_eq_false_iff_eq] at *
         subst_vars
         unfold twoS wS
         rw [HWD.out, HWS.out]
         repeat (first | rw [if_pos (by omega)] | rw [if_neg (by omega)])
         all_goals rfl
       · have M := MM.out
         subst_vars
         first | omega | decide
       · have M := MM.out
         subst_vars
         first | omega | decide)
    | (refine bodyPost_ret (res1 rfl _ _ _ w.heap.size _ rfl (load137 ((B0.put 0 _).put 1 _))) rfl (head_end1 (w.alloc (.cells #[.slice none 0 0, .int .i64 0] 137)) _ _ ?_ ?_ ((Ext.refl w).alloc _) (by simp) (by simp) hx1) <;> clear hx1 B0 k0 f0
       · simp only [beq_iff_eq, beq_eq_false_iff_ne, bne_iff_ne, bne_eq_false_iff_eq] at *
         subst_vars
         unfold twoS wS
         rw [HWD.out, HWS.out]
         repeat (first | rw [if_pos (by omega)] | rw [if_neg (by omega)])
         all_goals rfl
       · have M := MM.out
         subst_vars
         omega)
    | (refine bodyPost_ret (res1 rfl _ _ _ w.heap.size _ rfl (load137 ((B0.put 0 _).put 1 _))) rfl (RHead.pass ?_ B0 hby (((Ext.refl w).alloc _).trans hx1)) <;> clear hx1 B0 k0 f0 hby
       simp only [beq_iff_eq, beq_eq_false_iff_ne, bne_iff_ne, bne_eq_false_iff_eq] at *
       subst_vars
       unfold twoS wS
       rw [HWD.out, HWS.out]
       repeat (first | rw [if_pos (by omega)] | rw [if_neg (by omega)])
       all_goals rfl)
    | (refine bodyPost_ret (res1 rfl _ _ _ w.heap.size _ rfl (load137 (c0 := .slice none 0 0) (c1 := .int .i64 0) (Blk.new w _ 137))) rfl (RHead.mk (l := []) (n := 0) (t := 0) ?_ rfl (Byts.nil _) ((Ext.refl _).alloc _))
       simp only [beq_iff_eq, beq_eq_false_iff_ne, bne_iff_ne, bne_eq_false_iff_eq] at *
       subst_vars
       unfold twoS wS
       rw [HWD.out, HWS.out]
       repeat (first | rw [if_pos (by omega)] | rw [if_neg (by omega)])
       all_goals rfl)
theorem two_C_0_0 (op d s : Int) (w : World) (o1 : op = 30) (hwd : wideS d = 0) (hws : wideS s = 0) (d1 : d < 1 ∨ 16 < d) (s1 : s < 1 ∨ 16 < s) : Calls Tryz.prog 157 #[.int .i64 op, .int .i64 d, .int .i64 s] w (RHead w (twoS op d s)) := by
  have hnd := numS_range d
  have hns := numS_range s
  have MM := Lib.hid (M2.of op d s)
  unfold M2 at MM
  have HWD := Lib.hid hwd; have HWS := Lib.hid hws
  clear hwd hws
  have e1 : (d == 1) = false := by simp; omega
  have e9 : (d == 9) = false := by simp; omega
  have g1 : (s == 1) = false := by simp; omega
  have g9 : (s == 9) = false := by simp; omega
  have ne9 : (d != 9) = true := by simp; omega
  have ng9 : (s != 9) = true := by simp; omega
  subst o1
  go_enter Tryz.func157, Tryz.ntmps157
  go_wp2_with (first
    | (go_at_call 191; ((with_reducible refine (wide_any _ _).mono ?_); (first | rw [HWD.out] | rw [HWS.out] | rw [show wideS 1 = 8 from rfl] | rw [show wideS 9 = 16 from rfl] | rw [show wideS 17 = 0 from rfl] | rw [show wideS 18 = 0 from rfl] | rw [show wideS 19 = 0 from rfl] | rw [show wideS 20 = 0 from rfl]); rintro e w' ⟨rfl, rfl⟩))
    | (go_at_call 193; ((with_reducible refine (num_any _ (by omega) (by omega) _).mono ?_); rintro e w' ⟨rfl, rfl⟩))
    | (go_at_call 195; ((with_reducible refine (mem_any _ _ (by omega) (by omega) _).mono ?_); rintro e w' ⟨rfl, rfl⟩))
    | (go_at_call 192; ((with_reducible refine (rm_any _ _ (by omega) (by omega) _).mono ?_); rintro e w' ⟨rfl, rfl⟩))
    | (go_at_call 194; ((with_reducible refine (places_any _ _ _).mono ?_); rintro e w1 ⟨A, c, rfl, hby, hx1⟩; have B0 := (Blk.new w #[.slice none 0 0, .int .i64 0] 137).ext hx1; have k0 := B0.cell; have f0 := B0.frozen))
    | (go_at_call 159; ((with_reducible refine (of159_any _ _ _ _ _).mono ?_); rintro e w1 ⟨rfl, hx1⟩; have B0 := ((Blk.new w #[.slice none 0 0, .int .i64 0] 137).alloc _).ext hx1; have k0 := B0.cell; have f0 := B0.frozen)))
  all_goals first
    | (refine bodyPost_ret (res1 rfl _ _ _ w.heap.size _ rfl (load137 ((B0.put 0 _).put 1 _))) rfl (head_end2 (w.alloc (.cells #[.slice none 0 0, .int .i64 0] 137)) _ _ ?_ ?_ ?_ ((Ext.refl w).alloc _) (by simp) (by simp) hx1) <;> clear hx1 B0 k0 f0
       · simp only [beq_iff_eq, beq_eq_false_iff_ne, bne_iff_ne, bne_eq_false_iff_eq] at *
         subst_vars
         unfold twoS wS
         rw [HWD.out, HWS.out]
         repeat (first | rw [if_pos (by omega)] | rw [if_neg (by omega)])
         all_goals rfl
       · have M := MM.out
         subst_vars
         first | omega | decide
       · have M := MM.out
         subst_vars
         first | omega | decide)
    | (refine bodyPost_ret (res1 rfl _ _ _ w.heap.size _ rfl (load137 ((B0.put 0 _).put 1 _))) rfl (head_end1 (w.alloc (.cells #[.slice none 0 0, .int .i64 0] 137)) _ _ ?_ ?_ ((Ext.refl w).alloc _) (by simp) (by simp) hx1) <;> clear hx1 B0 k0 f0
       · simp only [beq_iff_eq, beq_eq_false_iff_ne, bne_iff_ne, bne_eq_false_iff_eq] at *
         subst_vars
         unfold twoS wS
         rw [HWD.out, HWS.out]
         repeat (first | rw [if_pos (by omega)] | rw [if_neg (by omega)])
         all_goals rfl
       · have M := MM.out
         subst_vars
         omega)
    | (refine bodyPost_ret (res1 rfl _ _ _ w.heap.size _ rfl (load137 ((B0.put 0 _).put 1 _))) rfl (RHead.pass ?_ B0 hby (((Ext.refl w).alloc _).trans hx1)) <;> clear hx1 B0 k0 f0 hby
       simp only [beq_iff_eq, beq_eq_false_iff_ne, bne_iff_ne, bne_eq_false_iff_eq] at *
       subst_vars
       unfold twoS wS
       rw [HWD.out, HWS.out]
       repeat (first | rw [if_pos (by omega)] | rw [if_neg (by omega)])
       all_goals rfl)
    | (refine bodyPost_ret (res1 rfl _ _ _ w.heap.size _ rfl (load137 (c0 := .slice none 0 0) (c1 := .int .i64 0) (Blk.new w _ 137))) rfl (RHead.mk (l := []) (n := 0) (t := 0) ?_ rfl (Byts.nil _) ((Ext.refl _).alloc _))
       simp only [beq_iff_eq, beq_eq_false_iff_ne, bne_iff_ne, bne_eq_false_iff_eq] at *
       subst_vars
       unfold twoS wS
       rw [HWD.out, HWS.out]
       repeat (first | rw [if_pos (by omega)] | rw [if_neg (by omega)])
       all_goals rfl)
theorem two_D_8_8 (op d s : Int) (w : World) (o1 : op = 31) (hwd : wideS d = 8) (hws : wideS s = 8) (d1 : 1 ≤ d) (d2 : d ≤ 8) (s1 : 1 ≤ s) (s2 : s ≤ 8) : Calls Tryz.prog 157 #[.int .i64 op, .int .i64 d, .int .i64 s] w (RHead w (twoS op d s)) := by
  have hnd := numS_range d
  have hns := numS_range s
  have MM := Lib.hid (M2.of op d s)
  unfold M2 at MM
  have HWD := Lib.hid hwd; have HWS := Lib.hid hws
  clear hwd hws
  have e9 : (d == 9) = false := by simp; omega
  have e17 : (d == 17) = false := by simp; omega
  have e18 : (d == 18) = false := by simp; omega
  have e19 : (d == 19) = false := by simp; omega
  have e20 : (d == 20) = false := by simp; omega
  have g9 : (s == 9) = false := by simp; omega
  have g17 : (s == 17) = false := by simp; omega
  have g18 : (s == 18) = false := by simp; omega
  have g19 : (s == 19) = false := by simp; omega
  have g20 : (s == 20) = false := by simp; omega
  have ne9 : (d != 9) = true := by simp; omega
  have ng9 : (s != 9) = true := by simp; omega
  subst o1
  go_enter Tryz.func157, Tryz.ntmps157
  go_wp2_with (first
    | (go_at_call 191; ((with_reducible refine (wide_any _ _).mono ?_); (first | rw [HWD.out] | rw [HWS.out] | rw [show wideS 1 = 8 from rfl] | rw [show wideS 9 = 16 from rfl] | rw [show wideS 17 = 0 from rfl] | rw [show wideS 18 = 0 from rfl] | rw [show wideS 19 = 0 from rfl] | rw [show wideS 20 = 0 from rfl]); rintro e w' ⟨rfl, rfl⟩))
    | (go_at_call 193; ((with_reducible refine (num_any _ (by omega) (by omega) _).mono ?_); rintro e w' ⟨rfl, rfl⟩))
    | (go_at_call 195; ((with_reducible refine (mem_any _ _ (by omega) (by omega) _).mono ?_); rintro e w' ⟨rfl, rfl⟩))
    | (go_at_call 192; ((with_reducible refine (rm_any _ _ (by omega) (by omega) _).mono ?_); rintro e w' ⟨rfl, rfl⟩))
    | (go_at_call 194; ((with_reducible refine (places_any _ _ _).mono ?_); rintro e w1 ⟨A, c, rfl, hby, hx1⟩; have B0 := (Blk.new w #[.slice none 0 0, .int .i64 0] 137).ext hx1; have k0 := B0.cell; have f0 := B0.frozen))
    | (go_at_call 159; ((with_reducible refine (of159_any _ _ _ _ _).mono ?_); rintro e w1 ⟨rfl, hx1⟩; have B0 := ((Blk.new w #[.slice none 0 0, .int .i64 0] 137).alloc _).ext hx1; have k0 := B0.cell; have f0 := B0.frozen)))
  all_goals first
    | (refine bodyPost_ret (res1 rfl _ _ _ w.heap.size _ rfl (load137 ((B0.put 0 _).put 1 _))) rfl (head_end2 (w.alloc (.cells #[.slice none 0 0, .int .i64 0] 137)) _ _ ?_ ?_ ?_ ((Ext.refl w).alloc _) (by simp) (by simp) hx1) <;> clear hx1 B0 k0 f0
       · simp only [beq_iff_eq, beq_eq_false_iff_ne, bne_iff_ne, bne_eq_false_iff_eq] at *
         subst_vars
         unfold twoS wS
         rw [HWD.out, HWS.out]
         repeat (first | rw [if_pos (by omega)] | rw [if_neg (by omega)])
         all_goals rfl
       · have M := MM.out
         subst_vars
         first | omega | decide
       · have M := MM.out
         subst_vars
         first | omega | decide)
    | (refine bodyPost_ret (res1 rfl _ _ _ w.heap.size _ rfl (load137 ((B0.put 0 _).put 1 _))) rfl (head_end1 (w.alloc (.cells #[.slice none 0 0, .int .i64 0] 137)) _ _ ?_ ?_ ((Ext.refl w).alloc _) (by simp) (by simp) hx1) <;> clear hx1 B0 k0 f0
       · simp only [beq_iff_eq, beq_eq_false_iff_ne, bne_iff_ne, bne_eq_false_iff_eq] at *
         subst_vars
         unfold twoS wS
         rw [HWD.out, HWS.out]
         repeat (first | rw [if_pos (by omega)] | rw [if_neg (by omega)])
         all_goals rfl
       · have M := MM.out
         subst_vars
         omega)
    | (refine bodyPost_ret (res1 rfl _ _ _ w.heap.size _ rfl (load137 ((B0.put 0 _).put 1 _))) rfl (RHead.pass ?_ B0 hby (((Ext.refl w).alloc _).trans hx1)) <;> clear hx1 B0 k0 f0 hby
       simp only [beq_iff_eq, beq_eq_false_iff_ne, bne_iff_ne, bne_eq_false_iff_eq] at *
       subst_vars
       unfold twoS wS
       rw [HWD.out, HWS.out]
       repeat (first | rw [if_pos (by omega)] | rw [if_neg (by omega)])
       all_goals rfl)
    | (refine bodyPost_ret (res1 rfl _ _ _ w.heap.size _ rfl (load137 (c0 := .slice none 0 0) (c1 := .int .i64 0) (Blk.new w _ 137))) rfl (RHead.mk (l := []) (n := 0) (t := 0) ?_ rfl (Byts.nil _) ((Ext.refl _).alloc _))
       simp only [beq_iff_eq, beq_eq_false_iff_ne, bne_iff_ne, bne_eq_false_iff_eq] at *
       subst_vars
       unfold twoS wS
       rw [HWD.out, HWS.out]
       repeat (first | rw [if_pos (by omega)] | rw [if_neg (by omega)])
       all_goals rfl)
theorem two_D_8_16 (op d s : Int) (w : World) (o1 : op = 31) (hwd : wideS d = 8) (hws : wideS s = 16) (d1 : 1 ≤ d) (d2 : d ≤ 8) (s1 : 9 ≤ s) (s2 : s ≤ 16) : Calls Tryz.prog 157 #[.int .i64 op, .int .i64 d, .int .i64 s] w (RHead w (twoS op d s)) := by
  have hnd := numS_range d
  have hns := numS_range s
  have MM := Lib.hid (M2.of op d s)
  unfold M2 at MM
  have HWD := Lib.hid hwd; have HWS := Lib.hid hws
  clear hwd hws
  have e9 : (d == 9) = false := by simp; omega
  have e17 : (d == 17) = false := by simp; omega
  have e18 : (d == 18) = false := by simp; omega
  have e19 : (d == 19) = false := by simp; omega
  have e20 : (d == 20) = false := by simp; omega
  have g1 : (s == 1) = false := by simp; omega
  have g17 : (s == 17) = false := by simp; omega
  have g18 : (s == 18) = false := by simp; omega
  have g19 : (s == 19) = false := by simp; omega
  have g20 : (s == 20) = false := by simp; omega
  have ne9 : (d != 9) = true := by simp; omega
  subst o1
  go_enter Tryz.func157, Tryz.ntmps157
  go_wp2_with (first
    | (go_at_call 191; ((with_reducible refine (wide_any _ _).mono ?_); (first | rw [HWD.out] | rw [HWS.out] | rw [show wideS 1 = 8 from rfl] | rw [show wideS 9 = 16 from rfl] | rw [show wideS 17 = 0 from rfl] | rw [show wideS 18 = 0 from rfl] | rw [show wideS 19 = 0 from rfl] | rw [show wideS 20 = 0 from rfl]); rintro e w' ⟨rfl, rfl⟩))
    | (go_at_call 193; ((with_reducible refine (num_any _ (by omega) (by omega) _).mono ?_); rintro e w' ⟨rfl, rfl⟩))
    | (go_at_call 195; ((with_reducible refine (mem_any _ _ (by omega) (by omega) _).mono ?_); rintro e w' ⟨rfl, rfl⟩))
    | (go_at_call 192; ((with_reducible refine (rm_any _ _ (by omega) (by omega) _).mono ?_); rintro e w' ⟨rfl, rfl⟩))
    | (go_at_call 194; ((with_reducible refine (places_any _ _ _).mono ?_); rintro e w1 ⟨A, c, rfl, hby, hx1⟩; have B0 := (Blk.new w #[.slice none 0 0, .int .i64 0] 137).ext hx1; have k0 := B0.cell; have f0 := B0.frozen))
    | (go_at_call 159; ((with_reducible refine (of159_any _ _ _ _ _).mono ?_); rintro e w1 ⟨rfl, hx1⟩; have B0 := ((Blk.new w #[.slice none 0 0, .int .i64 0] 137).alloc _).ext hx1; have k0 := B0.cell; have f0 := B0.frozen)))
  all_goals first
    | (refine bodyPost_ret (res1 rfl _ _ _ w.heap.size _ rfl (load137 ((B0.put 0 _).put 1 _))) rfl (head_end2 (w.alloc (.cells #[.slice none 0 0, .int .i64 0] 137)) _ _ ?_ ?_ ?_ ((Ext.refl w).alloc _) (by simp) (by simp) hx1) <;> clear hx1 B0 k0 f0
       · simp only [beq_iff_eq, beq_eq_false_iff_ne, bne_iff_ne, bne_eq_false_iff_eq] at *
         subst_vars
         unfold twoS wS
         rw [HWD.out, HWS.out]
         repeat (first | rw [if_pos (by omega)] | rw [if_neg (by omega)])
         all_goals rfl
       · have M := MM.out
         subst_vars
         first | omega | decide
       · have M := MM.out
         subst_vars
         first | omega | decide)
    | (refine bodyPost_ret (res1 rfl _ _ _ w.heap.size _ rfl (load137 ((B0.put 0 _).put 1 _))) rfl (head_end1 (w.alloc (.cells #[.slice none 0 0, .int .i64 0] 137)) _ _ ?_ ?_ ((Ext.refl w).alloc _) (by simp) (by simp) hx1) <;> clear hx1 B0 k0 f0
       · simp only [beq_iff_eq, beq_eq_false_iff_ne, bne_iff_ne, bne_eq_false_iff_eq] at *
         subst_vars
         unfold twoS wS
         rw [HWD.out, HWS.out]
         repeat (first | rw [if_pos (by omega)] | rw [if_neg (by omega)])
         all_goals rfl
       · have M := MM.out
         subst_vars
         omega)
    | (refine bodyPost_ret (res1 rfl _ _ _ w.heap.size _ rfl (load137 ((B0.put 0 _).put 1 _))) rfl (RHead.pass ?_ B0 hby (((Ext.refl w).alloc _).trans hx1)) <;> clear hx1 B0 k0 f0 hby
       simp only [beq_iff_eq, beq_eq_false_iff_ne, bne_iff_ne, bne_eq_false_iff_eq] at *
       subst_vars
       unfold twoS wS
       rw [HWD.out, HWS.out]
       repeat (first | rw [if_pos (by omega)] | rw [if_neg (by omega)])
       all_goals rfl)
    | (refine bodyPost_ret (res1 rfl _ _ _ w.heap.size _ rfl (load137 (c0 := .slice none 0 0) (c1 := .int .i64 0) (Blk.new w _ 137))) rfl (RHead.mk (l := []) (n := 0) (t := 0) ?_ rfl (Byts.nil _) ((Ext.refl _).alloc _))
       simp only [beq_iff_eq, beq_eq_false_iff_ne, bne_iff_ne, bne_eq_false_iff_eq] at *
       subst_vars
       unfold twoS wS
       rw [HWD.out, HWS.out]
       repeat (first | rw [if_pos (by omega)] | rw [if_neg (by omega)])
       all_goals rfl)
theorem two_D_8_0 (op d s : Int) (w : World) (o1 : op = 31) (hwd : wideS d = 8) (hws : wideS s = 0) (d1 : 1 ≤ d) (d2 : d ≤ 8) (s1 : s < 1 ∨ 16 < s) : Calls Tryz.prog 157 #[.int .i64 op, .int .i64 d, .int .i64 s] w (RHead w (twoS op d s)) := by
  have hnd := numS_range d
  have hns := numS_range s
  have MM := Lib.hid (M2.of op d s)
  unfold M2 at MM
  have HWD := Lib.hid hwd; have HWS := Lib.hid hws
  clear hwd hws
  have e9 : (d == 9) = false := by simp; omega
  have e17 : (d == 17) = false := by simp; omega
  have e18 : (d == 18) = false := by simp; omega
  have e19 : (d == 19) = false := by simp; omega
  have e20 : (d == 20) = false := by simp; omega
  have g1 : (s == 1) = false := by simp; omega
  have g9 : (s == 9) = false := by simp; omega
  have ne9 : (d != 9) = true := by simp; omega
  have ng9 : (s != 9) = true := by simp; omega
  subst o1
  go_enter Tryz.func157, Tryz.ntmps157
  go_wp2_with (first
    | (go_at_call 191; ((with_reducible refine (wide_any _ _).mono ?_); (first | rw [HWD.out] | rw [HWS.out] | rw [show wideS 1 = 8 from rfl] | rw [show wideS 9 = 16 from rfl] | rw [show wideS 17 = 0 from rfl] | rw [show wideS 18 = 0 from rfl] | rw [show wideS 19 = 0 from rfl] | rw [show wideS 20 = 0 from rfl]); rintro e w' ⟨rfl, rfl⟩))
    | (go_at_call 193; ((with_reducible refine (num_any _ (by omega) (by omega) _).mono ?_); rintro e w' ⟨rfl, rfl⟩))
    | (go_at_call 195; ((with_reducible refine (mem_any _ _ (by omega) (by omega) _).mono ?_); rintro e w' ⟨rfl, rfl⟩))
    | (go_at_call 192; ((with_reducible refine (rm_any _ _ (by omega) (by omega) _).mono ?_); rintro e w' ⟨rfl, rfl⟩))
    | (go_at_call 194; ((with_reducible refine (places_any _ _ _).mono ?_); rintro e w1 ⟨A, c, rfl, hby, hx1⟩; have B0 := (Blk.new w #[.slice none 0 0, .int .i64 0] 137).ext hx1; have k0 := B0.cell; have f0 := B0.frozen))
    | (go_at_call 159; ((with_reducible refine (of159_any _ _ _ _ _).mono ?_); rintro e w1 ⟨rfl, hx1⟩; have B0 := ((Blk.new w #[.slice none 0 0, .int .i64 0] 137).alloc _).ext hx1; have k0 := B0.cell; have f0 := B0.frozen)))
  all_goals first
    | (refine bodyPost_ret (res1 rfl _ _ _ w.heap.size _ rfl (load137 ((B0.put 0 _).put 1 _))) rfl (head_end2 (w.alloc (.cells #[.slice none 0 0, .int .i64 0] 137)) _ _ ?_ ?_ ?_ ((Ext.refl w).alloc _) (by simp) (by simp) hx1) <;> clear hx1 B0 k0 f0
       · simp only [beq_iff_eq, beq_eq_false_iff_ne, bne_iff_ne, bne_eq_false_iff_eq] at *
         subst_vars
         unfold twoS wS
         rw [HWD.out, HWS.out]
         repeat (first | rw [if_pos (by omega)] | rw [if_neg (by omega)])
         all_goals rfl
       · have M := MM.out
         subst_vars
         first | omega | decide
       · have M := MM.out
         subst_vars
         first | omega | decide)
    | (refine bodyPost_ret (res1 rfl _ _ _ w.heap.size _ rfl (load137 ((B0.put 0 _).put 1 _))) rfl (head_end1 (w.alloc (.cells #[.slice none 0 0, .int .i64 0] 137)) _ _ ?_ ?_ ((Ext.refl w).alloc _) (by simp) (by simp) hx1) <;> clear hx1 B0 k0 f0
       · simp only [beq_iff_eq, beq_eq_false_iff_ne, bne_iff_ne, bne_eq_false_iff_eq] at *
         subst_vars
         unfold twoS wS
         rw [HWD.out, HWS.out]
         repeat (first | rw [if_pos (by omega)] | rw [if_neg (by omega)])
         all_goals rfl
       · have M := MM.out
         subst_vars
         omega)
    | (refine bodyPost_ret (res1 rfl _ _ _ w.heap.size _ rfl (load137 ((B0.put 0 _).put 1 _))) rfl (RHead.pass ?_ B0 hby (((Ext.refl w).alloc _).trans hx1)) <;> clear hx1 B0 k0 f0 hby
       simp only [beq_iff_eq, beq_eq_false_iff_ne, bne_iff_ne, bne_eq_false_iff_eq] at *
       subst_vars
       unfold twoS wS
       rw [HWD.out, HWS.out]
       repeat (first | rw [if_pos (by omega)] | rw [if_neg (by omega)])
       all_goals rfl)
    | (refine bodyPost_ret (res1 rfl _ _ _ w.heap.size _ rfl (load137 (c0 := .slice none 0 0) (c1 := .int .i64 0) (Blk.new w _ 137))) rfl (RHead.mk (l := []) (n := 0) (t := 0) ?_ rfl (Byts.nil _) ((Ext.refl _).alloc _))
       simp only [beq_iff_eq, beq_eq_false_iff_ne, bne_iff_ne, bne_eq_false_iff_eq] at *
       subst_vars
       unfold twoS wS
       rw [HWD.out, HWS.out]
       repeat (first | rw [if_pos (by omega)] | rw [if_neg (by omega)])
       all_goals rfl)
theorem two_D_16_8 (op d s : Int) (w : World) (o1 : op = 31) (hwd : wideS d = 16) (hws : wideS s = 8) (d1 : 9 ≤ d) (d2 : d ≤ 16) (s1 : 1 ≤ s) (s2 : s ≤ 8) : Calls Tryz.prog 157 #[.int .i64 op, .int .i64 d, .int .i64 s] w (RHead w (twoS op d s)) := by
  have hnd := numS_range d
  have hns := numS_range s
  have MM := Lib.hid (M2.of op d s)
  unfold M2 at MM
  have HWD := Lib.hid hwd; have HWS := Lib.hid hws
  clear hwd hws
  have e1 : (d == 1) = false := by simp; omega
  have e17 : (d == 17) = false := by simp; omega
  have e18 : (d == 18) = false := by simp; omega
  have e19 : (d == 19) = false := by simp; omega
  have e20 : (d == 20) = false := by simp; omega
  have g9 : (s == 9) = false := by simp; omega
  have g17 : (s == 17) = false := by simp; omega
  have g18 : (s == 18) = false := by simp; omega
  have g19 : (s == 19) = false := by simp; omega
  have g20 : (s == 20) = false := by simp; omega
  have ng9 : (s != 9) = true := by simp; omega
  subst o1
  go_enter Tryz.func157, Tryz.ntmps157
  go_wp2_with (first
    | (go_at_call 191; ((with_reducible refine (wide_any _ _).mono ?_); (first | rw [HWD.out] | rw [HWS.out] | rw [show wideS 1 = 8 from rfl] | rw [show wideS 9 = 16 from rfl] | rw [show wideS 17 = 0 from rfl] | rw [show wideS 18 = 0 from rfl] | rw [show wideS 19 = 0 from rfl] | rw [show wideS 20 = 0 from rfl]); rintro e w' ⟨rfl, rfl⟩))
    | (go_at_call 193; ((with_reducible refine (num_any _ (by omega) (by omega) _).mono ?_); rintro e w' ⟨rfl, rfl⟩))
    | (go_at_call 195; ((with_reducible refine (mem_any _ _ (by omega) (by omega) _).mono ?_); rintro e w' ⟨rfl, rfl⟩))
    | (go_at_call 192; ((with_reducible refine (rm_any _ _ (by omega) (by omega) _).mono ?_); rintro e w' ⟨rfl, rfl⟩))
    | (go_at_call 194; ((with_reducible refine (places_any _ _ _).mono ?_); rintro e w1 ⟨A, c, rfl, hby, hx1⟩; have B0 := (Blk.new w #[.slice none 0 0, .int .i64 0] 137).ext hx1; have k0 := B0.cell; have f0 := B0.frozen))
    | (go_at_call 159; ((with_reducible refine (of159_any _ _ _ _ _).mono ?_); rintro e w1 ⟨rfl, hx1⟩; have B0 := ((Blk.new w #[.slice none 0 0, .int .i64 0] 137).alloc _).ext hx1; have k0 := B0.cell; have f0 := B0.frozen)))
  all_goals first
    | (refine bodyPost_ret (res1 rfl _ _ _ w.heap.size _ rfl (load137 ((B0.put 0 _).put 1 _))) rfl (head_end2 (w.alloc (.cells #[.slice none 0 0, .int .i64 0] 137)) _ _ ?_ ?_ ?_ ((Ext.refl w).alloc _) (by simp) (by simp) hx1) <;> clear hx1 B0 k0 f0
       · simp only [beq_iff_eq, beq_eq_false_iff_ne, bne_iff_ne, bne_eq_false_iff_eq] at *
         subst_vars
         unfold twoS wS
         rw [HWD.out, HWS.out]
         repeat (first | rw [if_pos (by omega)] | rw [if_neg (by omega)])
         all_goals rfl
       · have M := MM.out
         subst_vars
         first | omega | decide
       · have M := MM.out
         subst_vars
         first | omega | decide)
    | (refine bodyPost_ret (res1 rfl _ _ _ w.heap.size _ rfl (load137 ((B0.put 0 _).put 1 _))) rfl (head_end1 (w.alloc (.cells #[.slice none 0 0, .int .i64 0] 137)) _ _ ?_ ?_ ((Ext.refl w).alloc _) (by simp) (by simp) hx1) <;> clear hx1 B0 k0 f0
       · simp only [beq_iff_eq, beq_eq_false_iff_ne, bne_iff_ne, bne_eq_false_iff_eq] at *
         subst_vars
         unfold twoS wS
         rw [HWD.out, HWS.out]
         repeat (first | rw [if_pos (by omega)] | rw [if_neg (by omega)])
         all_goals rfl
       · have M := MM.out
         subst_vars
         omega)
    | (refine bodyPost_ret (res1 rfl _ _ _ w.heap.size _ rfl (load137 ((B0.put 0 _).put 1 _))) rfl (RHead.pass ?_ B0 hby (((Ext.refl w).alloc _).trans hx1)) <;> clear hx1 B0 k0 f0 hby
       simp only [beq_iff_eq, beq_eq_false_iff_ne, bne_iff_ne, bne_eq_false_iff_eq] at *
       subst_vars
       unfold twoS wS
       rw [HWD.out, HWS.out]
       repeat (first | rw [if_pos (by omega)] | rw [if_neg (by omega)])
       all_goals rfl)
    | (refine bodyPost_ret (res1 rfl _ _ _ w.heap.size _ rfl (load137 (c0 := .slice none 0 0) (c1 := .int .i64 0) (Blk.new w _ 137))) rfl (RHead.mk (l := []) (n := 0) (t := 0) ?_ rfl (Byts.nil _) ((Ext.refl _).alloc _))
       simp only [beq_iff_eq, beq_eq_false_iff_ne, bne_iff_ne, bne_eq_false_iff_eq] at *
       subst_vars
       unfold twoS wS
       rw [HWD.out, HWS.out]
       repeat (first | rw [if_pos (by omega)] | rw [if_neg (by omega)])
       all_goals rfl)
theorem two_D_16_16 (op d s : Int) (w : World) (o1 : op = 31) (hwd : wideS d = 16) (hws : wideS s = 16) (d1 : 9 ≤ d) (d2 : d ≤ 16) (s1 : 9 ≤ s) (s2 : s ≤ 16) : Calls Tryz.prog 157 #[.int .i64 op, .int .i64 d, .int .i64 s] w (RHead w (twoS op d s)) := by
  have hnd := numS_range d
  have hns := numS_range s
  have MM := Lib.hid (M2.of op d s)
  unfold M2 at MM
  have HWD := Lib.hid hwd; have HWS := Lib.hid hws
  clear hwd hws
  have e1 : (d == 1) = false := by simp; omega
  have e17 : (d == 17) = false := by simp; omega
  have e18 : (d == 18) = false := by simp; omega
  have e19 : (d == 19) = false := by simp; omega
  have e20 : (d == 20) = false := by simp; omega
  have g1 : (s == 1) = false := by simp; omega
  have g17 : (s == 17) = false := by simp; omega
  have g18 : (s == 18) = false := by simp; omega
  have g19 : (s == 19) = false := by simp; omega
  have g20 : (s == 20) = false := by simp; omega
  subst o1
  go_enter Tryz.func157, Tryz.ntmps157
  go_wp2_with (first
    | (go_at_call 191; ((with_reducible refine (wide_any _ _).mono ?_); (first | rw [HWD.out] | rw [HWS.out] | rw [show wideS 1 = 8 from rfl] | rw [show wideS 9 = 16 from rfl] | rw [show wideS 17 = 0 from rfl] | rw [show wideS 18 = 0 from rfl] | rw [show wideS 19 = 0 from rfl] | rw [show wideS 20 = 0 from rfl]); rintro e w' ⟨rfl, rfl⟩))
    | (go_at_call 193; ((with_reducible refine (num_any _ (by omega) (by omega) _).mono ?_); rintro e w' ⟨rfl, rfl⟩))
    | (go_at_call 195; ((with_reducible refine (mem_any _ _ (by omega) (by omega) _).mono ?_); rintro e w' ⟨rfl, rfl⟩))
    | (go_at_call 192; ((with_reducible refine (rm_any _ _ (by omega) (by omega) _).mono ?_); rintro e w' ⟨rfl, rfl⟩))
    | (go_at_call 194; ((with_reducible refine (places_any _ _ _).mono ?_); rintro e w1 ⟨A, c, rfl, hby, hx1⟩; have B0 := (Blk.new w #[.slice none 0 0, .int .i64 0] 137).ext hx1; have k0 := B0.cell; have f0 := B0.frozen))
    | (go_at_call 159; ((with_reducible refine (of159_any _ _ _ _ _).mono ?_); rintro e w1 ⟨rfl, hx1⟩; have B0 := ((Blk.new w #[.slice none 0 0, .int .i64 0] 137).alloc _).ext hx1; have k0 := B0.cell; have f0 := B0.frozen)))
  all_goals first
    | (refine bodyPost_ret (res1 rfl _ _ _ w.heap.size _ rfl (load137 ((B0.put 0 _).put 1 _))) rfl (head_end2 (w.alloc (.cells #[.slice none 0 0, .int .i64 0] 137)) _ _ ?_ ?_ ?_ ((Ext.refl w).alloc _) (by simp) (by simp) hx1) <;> clear hx1 B0 k0 f0
       · simp only [beq_iff_eq, beq_eq_false_iff_ne, bne_iff_ne, bne_eq_false_iff_eq] at *
         subst_vars
         unfold twoS wS
         rw [HWD.out, HWS.out]
         repeat (first | rw [if_pos (by omega)] | rw [if_neg (by omega)])
         all_goals rfl
       · have M := MM.out
         subst_vars
         first | omega | decide
       · have M := MM.out
         subst_vars
         first | omega | decide)
    | (refine bodyPost_ret (res1 rfl _ _ _ w.heap.size _ rfl (load137 ((B0.put 0 _).put 1 _))) rfl (head_end1 (w.alloc (.cells #[.slice none 0 0, .int .i64 0] 137)) _ _ ?_ ?_ ((Ext.refl w).alloc _) (by simp) (by simp) hx1) <;> clear hx1 B0 k0 f0
       · simp only [beq_iff_eq, beq_eq_false_iff_ne, bne_iff_ne, bne_eq_false_iff_eq] at *
         subst_vars
         unfold twoS wS
         rw [HWD.out, HWS.out]
         repeat (first | rw [if_pos (by omega)] | rw [if_neg (by omega)])
         all_goals rfl
       · have M := MM.out
         subst_vars
         omega)
    | (refine bodyPost_ret (res1 rfl _ _ _ w.heap.size _ rfl (load137 ((B0.put 0 _).put 1 _))) rfl (RHead.pass ?_ B0 hby (((Ext.refl w).alloc _).trans hx1)) <;> clear hx1 B0 k0 f0 hby
       simp only [beq_iff_eq, beq_eq_false_iff_ne, bne_iff_ne, bne_eq_false_iff_eq] at *
       subst_vars
       unfold twoS wS
       rw [HWD.out, HWS.out]
       repeat (first | rw [if_pos (by omega)] | rw [if_neg (by omega)])
       all_goals rfl)
    | (refine bodyPost_ret (res1 rfl _ _ _ w.heap.size _ rfl (load137 (c0 := .slice none 0 0) (c1 := .int .i64 0) (Blk.new w _ 137))) rfl (RHead.mk (l := []) (n := 0) (t := 0) ?_ rfl (Byts.nil _) ((Ext.refl _).alloc _))
       simp only [beq_iff_eq, beq_eq_false_iff_ne, bne_iff_ne, bne_eq_false_iff_eq] at *
       subst_vars
       unfold twoS wS
       rw [HWD.out, HWS.out]
       repeat (first | rw [if_pos (by omega)] | rw [if_neg (by omega)])
       all_goals rfl)
theorem two_D_16_0 (op d s : Int) (w : World) (o1 : op = 31) (hwd : wideS d = 16) (hws : wideS s = 0) (d1 : 9 ≤ d) (d2 : d ≤ 16) (s1 : s < 1 ∨ 16 < s) : Calls Tryz.prog 157 #[.int .i64 op, .int .i64 d, .int .i64 s] w (RHead w (twoS op d s)) := by
  have hnd := numS_range d
  have hns := numS_range s
  have MM := Lib.hid (M2.of op d s)
  unfold M2 at MM
  have HWD := Lib.hid hwd; have HWS := Lib.hid hws
  clear hwd hws
  have e1 : (d == 1) = false := by simp; omega
  have e17 : (d == 17) = false := by simp; omega
  have e18 : (d == 18) = false := by simp; omega
  have e19 : (d == 19) = false := by simp; omega
  have e20 : (d == 20) = false := by simp; omega
  have g1 : (s == 1) = false := by simp; omega
  have g9 : (s == 9) = false := by simp; omega
  have ng9 : (s != 9) = true := by simp; omega
  subst o1
  go_enter Tryz.func157, Tryz.ntmps157
  go_wp2_with (first
    | (go_at_call 191; ((with_reducible refine (wide_any _ _).mono ?_); (first | rw [HWD.out] | rw [HWS.out] | rw [show wideS 1 = 8 from rfl] | rw [show wideS 9 = 16 from rfl] | rw [show wideS 17 = 0 from rfl] | rw [show wideS 18 = 0 from rfl] | rw [show wideS 19 = 0 from rfl] | rw [show wideS 20 = 0 from rfl]); rintro e w' ⟨rfl, rfl⟩))
    | (go_at_call 193; ((with_reducible refine (num_any _ (by omega) (by omega) _).mono ?_); rintro e w' ⟨rfl, rfl⟩))
    | (go_at_call 195; ((with_reducible refine (mem_any _ _ (by omega) (by omega) _).mono ?_); rintro e w' ⟨rfl, rfl⟩))
    | (go_at_call 192; ((with_reducible refine (rm_any _ _ (by omega) (by omega) _).mono ?_); rintro e w' ⟨rfl, rfl⟩))
    | (go_at_call 194; ((with_reducible refine (places_any _ _ _).mono ?_); rintro e w1 ⟨A, c, rfl, hby, hx1⟩; have B0 := (Blk.new w #[.slice none 0 0, .int .i64 0] 137).ext hx1; have k0 := B0.cell; have f0 := B0.frozen))
    | (go_at_call 159; ((with_reducible refine (of159_any _ _ _ _ _).mono ?_); rintro e w1 ⟨rfl, hx1⟩; have B0 := ((Blk.new w #[.slice none 0 0, .int .i64 0] 137).alloc _).ext hx1; have k0 := B0.cell; have f0 := B0.frozen)))
  all_goals first
    | (refine bodyPost_ret (res1 rfl _ _ _ w.heap.size _ rfl (load137 ((B0.put 0 _).put 1 _))) rfl (head_end2 (w.alloc (.cells #[.slice none 0 0, .int .i64 0] 137)) _ _ ?_ ?_ ?_ ((Ext.refl w).alloc _) (by simp) (by simp) hx1) <;> clear hx1 B0 k0 f0
       · simp only [beq_iff_eq, beq_eq_false_iff_ne, bne_iff_ne, bne_eq_false_iff_eq] at *
         subst_vars
         unfold twoS wS
         rw [HWD.out, HWS.out]
         repeat (first | rw [if_pos (by omega)] | rw [if_neg (by omega)])
         all_goals rfl
       · have M := MM.out
         subst_vars
         first | omega | decide
       · have M := MM.out
         subst_vars
         first | omega | decide)
    | (refine bodyPost_ret (res1 rfl _ _ _ w.heap.size _ rfl (load137 ((B0.put 0 _).put 1 _))) rfl (head_end1 (w.alloc (.cells #[.slice none 0 0, .int .i64 0] 137)) _ _ ?_ ?_ ((Ext.refl w).alloc _) (by simp) (by simp) hx1) <;> clear hx1 B0 k0 f0
       · simp only [beq_iff_eq, beq_eq_false_iff_ne, bne_iff_ne, bne_eq_false_iff_eq] at *
         subst_vars
         unfold twoS wS
         rw [HWD.out, HWS.out]
         repeat (first | rw [if_pos (by omega)] | rw [if_neg (by omega)])
         all_goals rfl
       · have M := MM.out
         subst_vars
         omega)
    | (refine bodyPost_ret (res1 rfl _ _ _ w.heap.size _ rfl (load137 ((B0.put 0 _).put 1 _))) rfl (RHead.pass ?_ B0 hby (((Ext.refl w).alloc _).trans hx1)) <;> clear hx1 B0 k0 f0 hby
       simp only [beq_iff_eq, beq_eq_false_iff_ne, bne_iff_ne, bne_eq_false_iff_eq] at *
       subst_vars
       unfold twoS wS
       rw [HWD.out, HWS.out]
       repeat (first | rw [if_pos (by omega)] | rw [if_neg (by omega)])
       all_goals rfl)
    | (refine bodyPost_ret (res1 rfl _ _ _ w.heap.size _ rfl (load137 (c0 := .slice none 0 0) (c1 := .int .i64 0) (Blk.new w _ 137))) rfl (RHead.mk (l := []) (n := 0) (t := 0) ?_ rfl (Byts.nil _) ((Ext.refl _).alloc _))
       simp only [beq_iff_eq, beq_eq_false_iff_ne, bne_iff_ne, bne_eq_false_iff_eq] at *
       subst_vars
       unfold twoS wS
       rw [HWD.out, HWS.out]
       repeat (first | rw [if_pos (by omega)] | rw [if_neg (by omega)])
       all_goals rfl)
theorem two_D_0_8 (op d s : Int) (w : World) (o1 : op = 31) (hwd : wideS d = 0) (hws : wideS s = 8) (d1 : d < 1 ∨ 16 < d) (s1 : 1 ≤ s) (s2 : s ≤ 8) : Calls Tryz.prog 157 #[.int .i64 op, .int .i64 d, .int .i64 s] w (RHead w (twoS op d s)) := by
  have hnd := numS_range d
  have hns := numS_range s
  have MM := Lib.hid (M2.of op d s)
  unfold M2 at MM
  have HWD := Lib.hid hwd; have HWS := Lib.hid hws
  clear hwd hws
  have e1 : (d == 1) = false := by simp; omega
  have e9 : (d == 9) = false := by simp; omega
  have g9 : (s == 9) = false := by simp; omega
  have g17 : (s == 17) = false := by simp; omega
  have g18 : (s == 18) = false := by simp; omega
  have g19 : (s == 19) = false := by simp; omega
  have g20 : (s == 20) = false := by simp; omega
  have ne9 : (d != 9) = true := by simp; omega
  have ng9 : (s != 9) = true := by simp; omega
  subst o1
  go_enter Tryz.func157, Tryz.ntmps157
  go_wp2_with (first
    | (go_at_call 191; ((with_reducible refine (wide_any _ _).mono ?_); (first | rw [HWD.out] | rw [HWS.out] | rw [show wideS 1 = 8 from rfl] | rw [show wideS 9 = 16 from rfl] | rw [show wideS 17 = 0 from rfl] | rw [show wideS 18 = 0 from rfl] | rw [show wideS 19 = 0 from rfl] | rw [show wideS 20 = 0 from rfl]); rintro e w' ⟨rfl, rfl⟩))
    | (go_at_call 193; ((with_reducible refine (num_any _ (by omega) (by omega) _).mono ?_); rintro e w' ⟨rfl, rfl⟩))
    | (go_at_call 195; ((with_reducible refine (mem_any _ _ (by omega) (by omega) _).mono ?_); rintro e w' ⟨rfl, rfl⟩))
    | (go_at_call 192; ((with_reducible refine (rm_any _ _ (by omega) (by omega) _).mono ?_); rintro e w' ⟨rfl, rfl⟩))
    | (go_at_call 194; ((with_reducible refine (places_any _ _ _).mono ?_); rintro e w1 ⟨A, c, rfl, hby, hx1⟩; have B0 := (Blk.new w #[.slice none 0 0, .int .i64 0] 137).ext hx1; have k0 := B0.cell; have f0 := B0.frozen))
    | (go_at_call 159; ((with_reducible refine (of159_any _ _ _ _ _).mono ?_); rintro e w1 ⟨rfl, hx1⟩; have B0 := ((Blk.new w #[.slice none 0 0, .int .i64 0] 137).alloc _).ext hx1; have k0 := B0.cell; have f0 := B0.frozen)))
  all_goals first
    | (refine bodyPost_ret (res1 rfl _ _ _ w.heap.size _ rfl (load137 ((B0.put 0 _).put 1 _))) rfl (head_end2 (w.alloc (.cells #[.slice none 0 0, .int .i64 0] 137)) _ _ ?_ ?_ ?_ ((Ext.refl w).alloc _) (by simp) (by simp) hx1) <;> clear hx1 B0 k0 f0
       · simp only [beq_iff_eq, beq_eq_false_iff_ne, bne_iff_ne, bne_eq_false_iff_eq] at *
         subst_vars
         unfold twoS wS
         rw [HWD.out, HWS.out]
         repeat (first | rw [if_pos (by omega)] | rw [if_neg (by omega)])
         all_goals rfl
       · have M := MM.out
         subst_vars
         first | omega | decide
       · have M := MM.out
         subst_vars
         first | omega | decide)
    | (refine bodyPost_ret (res1 rfl _ _ _ w.heap.size _ rfl (load137 ((B0.put 0 _).put 1 _))) rfl (head_end1 (w.alloc (.cells #[.slice none 0 0, .int .i64 0] 137)) _ _ ?_ ?_ ((Ext.refl w).alloc _) (by simp) (by simp) hx1) <;> clear hx1 B0 k0 f0
       · simp only [beq_iff_eq, beq_eq_false_iff_ne, bne_iff_ne, bne_eq_false_iff_eq] at *
         subst_vars
         unfold twoS wS
         rw [HWD.out, HWS.out]
         repeat (first | rw [if_pos (by omega)] | rw [if_neg (by omega)])
         all_goals rfl
       · have M := MM.out
         subst_vars
         omega)
    | (refine bodyPost_ret (res1 rfl _ _ _ w.heap.size _ rfl (load137 ((B0.put 0 _).put 1 _))) rfl (RHead.pass ?_ B0 hby (((Ext.refl w).alloc _).trans hx1)) <;> clear hx1 B0 k0 f0 hby
       simp only [beq_iff_eq, beq_eq_false_iff_ne, bne_iff_ne, bne_eq_false_iff_eq] at *
       subst_vars
       unfold twoS wS
       rw [HWD.out, HWS.out]
       repeat (first | rw [if_pos (by omega)] | rw [if_neg (by omega)])
       all_goals rfl)
    | (refine bodyPost_ret (res1 rfl _ _ _ w.heap.size _ rfl (load137 (c0 := .slice none 0 0) (c1 := .int .i64 0) (Blk.new w _ 137))) rfl (RHead.mk (l := []) (n := 0) (t := 0) ?_ rfl (Byts.nil _) ((Ext.refl _).alloc _))
       simp only [beq_iff_eq, beq_eq_false_iff_ne, bne_iff_ne, bne_eq_false_iff_eq] at *
       subst_vars
       unfold twoS wS
       rw [HWD.out, HWS.out]
       repeat (first | rw [if_pos (by omega)] | rw [if_neg (by omega)])
       all_goals rfl)
theorem two_D_0_16 (op d s : Int) (w : World) (o1 : op = 31) (hwd : wideS d = 0) (hws : wideS s = 16) (d1 : d < 1 ∨ 16 < d) (s1 : 9 ≤ s) (s2 : s ≤ 16) : Calls Tryz.prog 157 #[.int .i64 op, .int .i64 d, .int .i64 s] w (RHead w (twoS op d s)) := by
  have hnd := numS_range d
  have hns := numS_range s
  have MM := Lib.hid (M2.of op d s)
  unfold M2 at MM
  have HWD := Lib.hid hwd; have HWS := Lib.hid hws
  clear hwd hws
  have e1 : (d == 1) = false := by simp; omega
  have e9 : (d == 9) = false := by simp; omega
  have g1 : (s == 1) = false := by simp; omega
  have g17 : (s == 17) = false := by simp; omega
  have g18 : (s == 18) = false := by simp; omega
  have g19 : (s == 19) = false := by simp; omega
  have g20 : (s == 20) = false := by simp; omega
  have ne9 : (d != 9) = true := by simp; omega
  subst o1
  go_enter Tryz.func157, Tryz.ntmps157
  go_wp2_with (first
    | (go_at_call 191; ((with_reducible refine (wide_any _ _).mono ?_); (first | rw [HWD.out] | rw [HWS.out] | rw [show wideS 1 = 8 from rfl] | rw [show wideS 9 = 16 from rfl] | rw [show wideS 17 = 0 from rfl] | rw [show wideS 18 = 0 from rfl] | rw [show wideS 19 = 0 from rfl] | rw [show wideS 20 = 0 from rfl]); rintro e w' ⟨rfl, rfl⟩))
    | (go_at_call 193; ((with_reducible refine (num_any _ (by omega) (by omega) _).mono ?_); rintro e w' ⟨rfl, rfl⟩))
    | (go_at_call 195; ((with_reducible refine (mem_any _ _ (by omega) (by omega) _).mono ?_); rintro e w' ⟨rfl, rfl⟩))
    | (go_at_call 192; ((with_reducible refine (rm_any _ _ (by omega) (by omega) _).mono ?_); rintro e w' ⟨rfl, rfl⟩))
    | (go_at_call 194; ((with_reducible refine (places_any _ _ _).mono ?_); rintro e w1 ⟨A, c, rfl, hby, hx1⟩; have B0 := (Blk.new w #[.slice none 0 0, .int .i64 0] 137).ext hx1; have k0 := B0.cell; have f0 := B0.frozen))
    | (go_at_call 159; ((with_reducible refine (of159_any _ _ _ _ _).mono ?_); rintro e w1 ⟨rfl, hx1⟩; have B0 := ((Blk.new w #[.slice none 0 0, .int .i64 0] 137).alloc _).ext hx1; have k0 := B0.cell; have f0 := B0.frozen)))
  all_goals first
    | (refine bodyPost_ret (res1 rfl _ _ _ w.heap.size _ rfl (load137 ((B0.put 0 _).put 1 _))) rfl (head_end2 (w.alloc (.cells #[.slice none 0 0, .int .i64 0] 137)) _ _ ?_ ?_ ?_ ((Ext.refl w).alloc _) (by simp) (by simp) hx1) <;> clear hx1 B0 k0 f0
       · simp only [beq_iff_eq, beq_eq_false_iff_ne, bne_iff_ne, bne_eq_false_iff_eq] at *
         subst_vars
         unfold twoS wS
         rw [HWD.out, HWS.out]
         repeat (first | rw [if_pos (by omega)] | rw [if_neg (by omega)])
         all_goals rfl
       · have M := MM.out
         subst_vars
         first | omega | decide
       · have M := MM.out
         subst_vars
         first | omega | decide)
    | (refine bodyPost_ret (res1 rfl _ _ _ w.heap.size _ rfl (load137 ((B0.put 0 _).put 1 _))) rfl (head_end1 (w.alloc (.cells #[.slice none 0 0, .int .i64 0] 137)) _ _ ?_ ?_ ((Ext.refl w).alloc _) (by simp) (by simp) hx1) <;> clear hx1 B0 k0 f0
       · simp only [beq_iff_eq, beq_eq_false_iff_ne, bne_iff_ne, bne_eq_false_iff_eq] at *
         subst_vars
         unfold twoS wS
         rw [HWD.out, HWS.out]
         repeat (first | rw [if_pos (by omega)] | rw [if_neg (by omega)])
         all_goals rfl
       · have M := MM.out
         subst_vars
         omega)
    | (refine bodyPost_ret (res1 rfl _ _ _ w.heap.size _ rfl (load137 ((B0.put 0 _).put 1 _))) rfl (RHead.pass ?_ B0 hby (((Ext.refl w).alloc _).trans hx1)) <;> clear hx1 B0 k0 f0 hby
       simp only [beq_iff_eq, beq_eq_false_iff_ne, bne_iff_ne, bne_eq_false_iff_eq] at *
       subst_vars
       unfold twoS wS
       rw [HWD.out, HWS.out]
       repeat (first | rw [if_pos (by omega)] | rw [if_neg (by omega)])
       all_goals rfl)
    | (refine bodyPost_ret (res1 rfl _ _ _ w.heap.size _ rfl (load137 (c0 := .slice none 0 0) (c1 := .int .i64 0) (Blk.new w _ 137))) rfl (RHead.mk (l := []) (n := 0) (t := 0) ?_ rfl (Byts.nil _) ((Ext.refl _).alloc _))
       simp only [beq_iff_eq, beq_eq_false_iff_ne, bne_iff_ne, bne_eq_false_iff_eq] at *
       subst_vars
       unfold twoS wS
       rw [HWD.out, HWS.out]
       repeat (first | rw [if_pos (by omega)] | rw [if_neg (by omega)])
       all_goals rfl)
theorem two_D_0_0 (op d s : Int) (w : World) (o1 : op = 31) (hwd : wideS d = 0) (hws : wideS s = 0) (d1 : d < 1 ∨ 16 < d) (s1 : s < 1 ∨ 16 < s) : Calls Tryz.prog 157 #[.int .i64 op, .int .i64 d, .int .i64 s] w (RHead w (twoS op d s)) := by
  have hnd := numS_range d
  have hns := numS_range s
  have MM := Lib.hid (M2.of op d s)
  unfold M2 at MM
  have HWD := Lib.hid hwd; have HWS := Lib.hid hws
  clear hwd hws
  have e1 : (d == 1) = false := by simp; omega
  have e9 : (d == 9) = false := by simp; omega
  have g1 : (s == 1) = false := by simp; omega
  have g9 : (s == 9) = false := by simp; omega
  have ne9 : (d != 9) = true := by simp; omega
  have ng9 : (s != 9) = true := by simp; omega
  subst o1
  go_enter Tryz.func157, Tryz.ntmps157
  go_wp2_with (first
    | (go_at_call 191; ((with_reducible refine (wide_any _ _).mono ?_); (first | rw [HWD.out] | rw [HWS.out] | rw [show wideS 1 = 8 from rfl] | rw [show wideS 9 = 16 from rfl] | rw [show wideS 17 = 0 from rfl] | rw [show wideS 18 = 0 from rfl] | rw [show wideS 19 = 0 from rfl] | rw [show wideS 20 = 0 from rfl]); rintro e w' ⟨rfl, rfl⟩))
    | (go_at_call 193; ((with_reducible refine (num_any _ (by omega) (by omega) _).mono ?_); rintro e w' ⟨rfl, rfl⟩))
    | (go_at_call 195; ((with_reducible refine (mem_any _ _ (by omega) (by omega) _).mono ?_); rintro e w' ⟨rfl, rfl⟩))
    | (go_at_call 192; ((with_reducible refine (rm_any _ _ (by omega) (by omega) _).mono ?_); rintro e w' ⟨rfl, rfl⟩))
    | (go_at_call 194; ((with_reducible refine (places_any _ _ _).mono ?_); rintro e w1 ⟨A, c, rfl, hby, hx1⟩; have B0 := (Blk.new w #[.slice none 0 0, .int .i64 0] 137).ext hx1; have k0 := B0.cell; have f0 := B0.frozen))
    | (go_at_call 159; ((with_reducible refine (of159_any _ _ _ _ _).mono ?_); rintro e w1 ⟨rfl, hx1⟩; have B0 := ((Blk.new w #[.slice none 0 0, .int .i64 0] 137).alloc _).ext hx1; have k0 := B0.cell; have f0 := B0.frozen)))
  all_goals first
    | (refine bodyPost_ret (res1 rfl _ _ _ w.heap.size _ rfl (load137 ((B0.put 0 _).put 1 _))) rfl (head_end2 (w.alloc (.cells #[.slice none 0 0, .int .i64 0] 137)) _ _ ?_ ?_ ?_ ((Ext.refl w).alloc _) (by simp) (by simp) hx1) <;> clear hx1 B0 k0 f0
       · simp only [beq_iff_eq, beq_eq_false_iff_ne, bne_iff_ne, bne_eq_false_iff_eq] at *
         subst_vars
         unfold twoS wS
         rw [HWD.out, HWS.out]
         repeat (first | rw [if_pos (by omega)] | rw [if_neg (by omega)])
         all_goals rfl
       · have M := MM.out
         subst_vars
         first | omega | decide
       · have M := MM.out
         subst_vars
         first | omega | decide)
    | (refine bodyPost_ret (res1 rfl _ _ _ w.heap.size _ rfl (load137 ((B0.put 0 _).put 1 _))) rfl (head_end1 (w.alloc (.cells #[.slice none 0 0, .int .i64 0] 137)) _ _ ?_ ?_ ((Ext.refl w).alloc _) (by simp) (by simp) hx1) <;> clear hx1 B0 k0 f0
       · simp only [beq_iff_eq, beq_eq_false_iff_ne, bne_iff_ne, bne_eq_false_iff_eq] at *
         subst_vars
         unfold twoS wS
         rw [HWD.out, HWS.out]
         repeat (first | rw [if_pos (by omega)] | rw [if_neg (by omega)])
         all_goals rfl
       · have M := MM.out
         subst_vars
         omega)
    | (refine bodyPost_ret (res1 rfl _ _ _ w.heap.size _ rfl (load137 ((B0.put 0 _).put 1 _))) rfl (RHead.pass ?_ B0 hby (((Ext.refl w).alloc _).trans hx1)) <;> clear hx1 B0 k0 f0 hby
       simp only [beq_iff_eq, beq_eq_false_iff_ne, bne_iff_ne, bne_eq_false_iff_eq] at *
       subst_vars
       unfold twoS wS
       rw [HWD.out, HWS.out]
       repeat (first | rw [if_pos (by omega)] | rw [if_neg (by omega)])
       all_goals rfl)
    | (refine bodyPost_ret (res1 rfl _ _ _ w.heap.size _ rfl (load137 (c0 := .slice none 0 0) (c1 := .int .i64 0) (Blk.new w _ 137))) rfl (RHead.mk (l := []) (n := 0) (t := 0) ?_ rfl (Byts.nil _) ((Ext.refl _).alloc _))
       simp only [beq_iff_eq, beq_eq_false_iff_ne, bne_iff_ne, bne_eq_false_iff_eq] at *
       subst_vars
       unfold twoS wS
       rw [HWD.out, HWS.out]
       repeat (first | rw [if_pos (by omega)] | rw [if_neg (by omega)])
       all_goals rfl)
theorem two_E_8_8 (op d s : Int) (w : World) (o1 : 2 ≤ op) (o2 : op ≤ 9) (hwd : wideS d = 8) (hws : wideS s = 8) (d1 : 1 ≤ d) (d2 : d ≤ 8) (s1 : 1 ≤ s) (s2 : s ≤ 8) : Calls Tryz.prog 157 #[.int .i64 op, .int .i64 d, .int .i64 s] w (RHead w (twoS op d s)) := by
  have hnd := numS_range d
  have hns := numS_range s
  have MM := Lib.hid (M2.of op d s)
  unfold M2 at MM
  have HWD := Lib.hid hwd; have HWS := Lib.hid hws
  clear hwd hws
  have e9 : (d == 9) = false := by simp; omega
  have e17 : (d == 17) = false := by simp; omega
  have e18 : (d == 18) = false := by simp; omega
  have e19 : (d == 19) = false := by simp; omega
  have e20 : (d == 20) = false := by simp; omega
  have g9 : (s == 9) = false := by simp; omega
  have g17 : (s == 17) = false := by simp; omega
  have g18 : (s == 18) = false := by simp; omega
  have g19 : (s == 19) = false := by simp; omega
  have g20 : (s == 20) = false := by simp; omega
  have ne9 : (d != 9) = true := by simp; omega
  have ng9 : (s != 9) = true := by simp; omega
  have hb : bits .and .u8 (op - 2) 7 = op - 2 := by rw [band7 _ (by omega) (by omega)]; omega
  have p1 : (op == 1) = false := by simp; omega
  have p17 : (op == 17) = false := by simp; omega
  have p30 : (op == 30) = false := by simp; omega
  have p31 : (op == 31) = false := by simp; omega
  go_enter Tryz.func157, Tryz.ntmps157
  go_wp2_with (first
    | (go_at_call 191; ((with_reducible refine (wide_any _ _).mono ?_); (first | rw [HWD.out] | rw [HWS.out] | rw [show wideS 1 = 8 from rfl] | rw [show wideS 9 = 16 from rfl] | rw [show wideS 17 = 0 from rfl] | rw [show wideS 18 = 0 from rfl] | rw [show wideS 19 = 0 from rfl] | rw [show wideS 20 = 0 from rfl]); rintro e w' ⟨rfl, rfl⟩))
    | (go_at_call 193; ((with_reducible refine (num_any _ (by omega) (by omega) _).mono ?_); rintro e w' ⟨rfl, rfl⟩))
    | (go_at_call 195; ((with_reducible refine (mem_any _ _ (by omega) (by omega) _).mono ?_); rintro e w' ⟨rfl, rfl⟩))
    | (go_at_call 192; ((with_reducible refine (rm_any _ _ (by omega) (by omega) _).mono ?_); rintro e w' ⟨rfl, rfl⟩))
    | (go_at_call 194; ((with_reducible refine (places_any _ _ _).mono ?_); rintro e w1 ⟨A, c, rfl, hby, hx1⟩; have B0 := (Blk.new w #[.slice none 0 0, .int .i64 0] 137).ext hx1; have k0 := B0.cell; have f0 := B0.frozen))
    | (go_at_call 159; ((with_reducible refine (of159_any _ _ _ _ _).mono ?_); rintro e w1 ⟨rfl, hx1⟩; have B0 := ((Blk.new w #[.slice none 0 0, .int .i64 0] 137).alloc _).ext hx1; have k0 := B0.cell; have f0 := B0.frozen)))
  all_goals first
    | (refine bodyPost_ret (res1 rfl _ _ _ w.heap.size _ rfl (load137 ((B0.put 0 _).put 1 _))) rfl (head_end2 (w.alloc (.cells #[.slice none 0 0, .int .i64 0] 137)) _ _ ?_ ?_ ?_ ((Ext.refl w).alloc _) (by simp) (by simp) hx1) <;> clear hx1 B0 k0 f0
       · simp only [beq_iff_eq, beq_eq_false_iff_ne, bne_iff_ne, bne_eq_false_iff_eq] at *
         subst_vars
         unfold twoS wS
         rw [HWD.out, HWS.out]
         repeat (first | rw [if_pos (by omega)] | rw [if_neg (by omega)])
         all_goals rfl
       · have M := MM.out
         subst_vars
         first | omega | decide
       · have M := MM.out
         subst_vars
         first | omega | decide)
    | (refine bodyPost_ret (res1 rfl _ _ _ w.heap.size _ rfl (load137 ((B0.put 0 _).put 1 _))) rfl (head_end1 (w.alloc (.cells #[.slice none 0 0, .int .i64 0] 137)) _ _ ?_ ?_ ((Ext.refl w).alloc _) (by simp) (by simp) hx1) <;> clear hx1 B0 k0 f0
       · simp only [beq_iff_eq, beq_eq_false_iff_ne, bne_iff_ne, bne_eq_false_iff_eq] at *
         subst_vars
         unfold twoS wS
         rw [HWD.out, HWS.out]
         repeat (first | rw [if_pos (by omega)] | rw [if_neg (by omega)])
         all_goals rfl
       · have M := MM.out
         subst_vars
         omega)
    | (refine bodyPost_ret (res1 rfl _ _ _ w.heap.size _ rfl (load137 ((B0.put 0 _).put 1 _))) rfl (RHead.pass ?_ B0 hby (((Ext.refl w).alloc _).trans hx1)) <;> clear hx1 B0 k0 f0 hby
       simp only [beq_iff_eq, beq_eq_false_iff_ne, bne_iff_ne, bne_eq_false_iff_eq] at *
       subst_vars
       unfold twoS wS
       rw [HWD.out, HWS.out]
       repeat (first | rw [if_pos (by omega)] | rw [if_neg (by omega)])
       all_goals rfl)
    | (refine bodyPost_ret (res1 rfl _ _ _ w.heap.size _ rfl (load137 (c0 := .slice none 0 0) (c1 := .int .i64 0) (Blk.new w _ 137))) rfl (RHead.mk (l := []) (n := 0) (t := 0) ?_ rfl (Byts.nil _) ((Ext.refl _).alloc _))
       simp only [beq_iff_eq, beq_eq_false_iff_ne, bne_iff_ne, bne_eq_false_iff_eq] at *
       subst_vars
       unfold twoS wS
       rw [HWD.out, HWS.out]
       repeat (first | rw [if_pos (by omega)] | rw [if_neg (by omega)])
       all_goals rfl)
theorem two_E_8_16 (op d s : Int) (w : World) (o1 : 2 ≤ op) (o2 : op ≤ 9) (hwd : wideS d = 8) (hws : wideS s = 16) (d1 : 1 ≤ d) (d2 : d ≤ 8) (s1 : 9 ≤ s) (s2 : s ≤ 16) : Calls Tryz.prog 157 #[.int .i64 op, .int .i64 d, .int .i64 s] w (RHead w (twoS op d s)) := by
  have hnd := numS_range d
  have hns := numS_range s
  have MM := Lib.hid (M2.of op d s)
  unfold M2 at MM
  have HWD := Lib.hid hwd; have HWS := Lib.hid hws
  clear hwd hws
  have e9 : (d == 9) = false := by simp; omega
  have e17 : (d == 17) = false := by simp; omega
  have e18 : (d == 18) = false := by simp; omega
  have e19 : (d == 19) = false := by simp; omega
  have e20 : (d == 20) = false := by simp; omega
  have g1 : (s == 1) = false := by simp; omega
  have g17 : (s == 17) = false := by simp; omega
  have g18 : (s == 18) = false := by simp; omega
  have g19 : (s == 19) = false := by simp; omega
  have g20 : (s == 20) = false := by simp; omega
  have ne9 : (d != 9) = true := by simp; omega
  have hb : bits .and .u8 (op - 2) 7 = op - 2 := by rw [band7 _ (by omega) (by omega)]; omega
  have p1 : (op == 1) = false := by simp; omega
  have p17 : (op == 17) = false := by simp; omega
  have p30 : (op == 30) = false := by simp; omega
  have p31 : (op == 31) = false := by simp; omega
  go_enter Tryz.func157, Tryz.ntmps157
  go_wp2_with (first
    | (go_at_call 191; ((with_reducible refine (wide_any _ _).mono ?_); (first | rw [HWD.out] | rw [HWS.out] | rw [show wideS 1 = 8 from rfl] | rw [show wideS 9 = 16 from rfl] | rw [show wideS 17 = 0 from rfl] | rw [show wideS 18 = 0 from rfl] | rw [show wideS 19 = 0 from rfl] | rw [show wideS 20 = 0 from rfl]); rintro e w' ⟨rfl, rfl⟩))
    | (go_at_call 193; ((with_reducible refine (num_any _ (by omega) (by omega) _).mono ?_); rintro e w' ⟨rfl, rfl⟩))
    | (go_at_call 195; ((with_reducible refine (mem_any _ _ (by omega) (by omega) _).mono ?_); rintro e w' ⟨rfl, rfl⟩))
    | (go_at_call 192; ((with_reducible refine (rm_any _ _ (by omega) (by omega) _).mono ?_); rintro e w' ⟨rfl, rfl⟩))
    | (go_at_call 194; ((with_reducible refine (places_any _ _ _).mono ?_); rintro e w1 ⟨A, c, rfl, hby, hx1⟩; have B0 := (Blk.new w #[.slice none 0 0, .int .i64 0] 137).ext hx1; have k0 := B0.cell; have f0 := B0.frozen))
    | (go_at_call 159; ((with_reducible refine (of159_any _ _ _ _ _).mono ?_); rintro e w1 ⟨rfl, hx1⟩; have B0 := ((Blk.new w #[.slice none 0 0, .int .i64 0] 137).alloc _).ext hx1; have k0 := B0.cell; have f0 := B0.frozen)))
  all_goals first
    | (refine bodyPost_ret (res1 rfl _ _ _ w.heap.size _ rfl (load137 ((B0.put 0 _).put 1 _))) rfl (head_end2 (w.alloc (.cells #[.slice none 0 0, .int .i64 0] 137)) _ _ ?_ ?_ ?_ ((Ext.refl w).alloc _) (by simp) (by simp) hx1) <;> clear hx1 B0 k0 f0
       · simp only [beq_iff_eq, beq_eq_false_iff_ne, bne_iff_ne, bne_eq_false_iff_eq] at *
         subst_vars
         unfold twoS wS
         rw [HWD.out, HWS.out]
         repeat (first | rw [if_pos (by omega)] | rw [if_neg (by omega)])
         all_goals rfl
       · have M := MM.out
         subst_vars
         first | omega | decide
       · have M := MM.out
         subst_vars
         first | omega | decide)
    | (refine bodyPost_ret (res1 rfl _ _ _ w.heap.size _ rfl (load137 ((B0.put 0 _).put 1 _))) rfl (head_end1 (w.alloc (.cells #[.slice none 0 0, .int .i64 0] 137)) _ _ ?_ ?_ ((Ext.refl w).alloc _) (by simp) (by simp) hx1) <;> clear hx1 B0 k0 f0
       · simp only [beq_iff_eq, beq_eq_false_iff_ne, bne_iff_ne, bne_eq_false_iff_eq] at *
         subst_vars
         unfold twoS wS
         rw [HWD.out, HWS.out]
         repeat (first | rw [if_pos (by omega)] | rw [if_neg (by omega)])
         all_goals rfl
       · have M := MM.out
         subst_vars
         omega)
    | (refine bodyPost_ret (res1 rfl _ _ _ w.heap.size _ rfl (load137 ((B0.put 0 _).put 1 _))) rfl (RHead.pass ?_ B0 hby (((Ext.refl w).alloc _).trans hx1)) <;> clear hx1 B0 k0 f0 hby
       simp only [beq_iff_eq, beq_eq_false_iff_ne, bne_iff_ne, bne_eq_false_iff_eq] at *
       subst_vars
       unfold twoS wS
       rw [HWD.out, HWS.out]
       repeat (first | rw [if_pos (by omega)] | rw [if_neg (by omega)])
       all_goals rfl)
    | (refine bodyPost_ret (res1 rfl _ _ _ w.heap.size _ rfl (load137 (c0 := .slice none 0 0) (c1 := .int .i64 0) (Blk.new w _ 137))) rfl (RHead.mk (l := []) (n := 0) (t := 0) ?_ rfl (Byts.nil _) ((Ext.refl _).alloc _))
       simp only [beq_iff_eq, beq_eq_false_iff_ne, bne_iff_ne, bne_eq_false_iff_eq] at *
       subst_vars
       unfold twoS wS
       rw [HWD.out, HWS.out]
       repeat (first | rw [if_pos (by omega)] | rw [if_neg (by omega)])
       all_goals rfl)
theorem two_E_8_0 (op d s : Int) (w : World) (o1 : 2 ≤ op) (o2 : op ≤ 9) (hwd : wideS d = 8) (hws : wideS s = 0) (d1 : 1 ≤ d) (d2 : d ≤ 8) (s1 : s < 1 ∨ 16 < s) : Calls Tryz.prog 157 #[.int .i64 op, .int .i64 d, .int .i64 s] w (RHead w (twoS op d s)) := by
  have hnd := numS_range d
  have hns := numS_range s
  have MM := Lib.hid (M2.of op d s)
  unfold M2 at MM
  have HWD := Lib.hid hwd; have HWS := Lib.hid hws
  clear hwd hws
  have e9 : (d == 9) = false := by simp; omega
  have e17 : (d == 17) = false := by simp; omega
  have e18 : (d == 18) = false := by simp; omega
  have e19 : (d == 19) = false := by simp; omega
  have e20 : (d == 20) = false := by simp; omega
  have g1 : (s == 1) = false := by simp; omega
  have g9 : (s == 9) = false := by simp; omega
  have ne9 : (d != 9) = true := by simp; omega
  have ng9 : (s != 9) = true := by simp; omega
  have hb : bits .and .u8 (op - 2) 7 = op - 2 := by rw [band7 _ (by omega) (by omega)]; omega
  have p1 : (op == 1) = false := by simp; omega
  have p17 : (op == 17) = false := by simp; omega
  have p30 : (op == 30) = false := by simp; omega
  have p31 : (op == 31) = false := by simp; omega
  go_enter Tryz.func157, Tryz.ntmps157
  go_wp2_with (first
    | (go_at_call 191; ((with_reducible refine (wide_any _ _).mono ?_); (first | rw [HWD.out] | rw [HWS.out] | rw [show wideS 1 = 8 from rfl] | rw [show wideS 9 = 16 from rfl] | rw [show wideS 17 = 0 from rfl] | rw [show wideS 18 = 0 from rfl] | rw [show wideS 19 = 0 from rfl] | rw [show wideS 20 = 0 from rfl]); rintro e w' ⟨rfl, rfl⟩))
    | (go_at_call 193; ((with_reducible refine (num_any _ (by omega) (by omega) _).mono ?_); rintro e w' ⟨rfl, rfl⟩))
    | (go_at_call 195; ((with_reducible refine (mem_any _ _ (by omega) (by omega) _).mono ?_); rintro e w' ⟨rfl, rfl⟩))
    | (go_at_call 192; ((with_reducible refine (rm_any _ _ (by omega) (by omega) _).mono ?_); rintro e w' ⟨rfl, rfl⟩))
    | (go_at_call 194; ((with_reducible refine (places_any _ _ _).mono ?_); rintro e w1 ⟨A, c, rfl, hby, hx1⟩; have B0 := (Blk.new w #[.slice none 0 0, .int .i64 0] 137).ext hx1; have k0 := B0.cell; have f0 := B0.frozen))
    | (go_at_call 159; ((with_reducible refine (of159_any _ _ _ _ _).mono ?_); rintro e w1 ⟨rfl, hx1⟩; have B0 := ((Blk.new w #[.slice none 0 0, .int .i64 0] 137).alloc _).ext hx1; have k0 := B0.cell; have f0 := B0.frozen)))
  all_goals first
    | (refine bodyPost_ret (res1 rfl _ _ _ w.heap.size _ rfl (load137 ((B0.put 0 _).put 1 _))) rfl (head_end2 (w.alloc (.cells #[.slice none 0 0, .int .i64 0] 137)) _ _ ?_ ?_ ?_ ((Ext.refl w).alloc _) (by simp) (by simp) hx1) <;> clear hx1 B0 k0 f0
       · simp only [beq_iff_eq, beq_eq_false_iff_ne, bne_iff_ne, bne_eq_false_iff_eq] at *
         subst_vars
         unfold twoS wS
         rw [HWD.out, HWS.out]
         repeat (first | rw [if_pos (by omega)] | rw [if_neg (by omega)])
         all_goals rfl
       · have M := MM.out
         subst_vars
         first | omega | decide
       · have M := MM.out
         subst_vars
         first | omega | decide)
    | (refine bodyPost_ret (res1 rfl _ _ _ w.heap.size _ rfl (load137 ((B0.put 0 _).put 1 _))) rfl (head_end1 (w.alloc (.cells #[.slice none 0 0, .int .i64 0] 137)) _ _ ?_ ?_ ((Ext.refl w).alloc _) (by simp) (by simp) hx1) <;> clear hx1 B0 k0 f0
       · simp only [beq_iff_eq, beq_eq_false_iff_ne, bne_iff_ne, bne_eq_false_iff_eq] at *
         subst_vars
         unfold twoS wS
         rw [HWD.out, HWS.out]
         repeat (first | rw [if_pos (by omega)] | rw [if_neg (by omega)])
         all_goals rfl
       · have M := MM.out
         subst_vars
         omega)
    | (refine bodyPost_ret (res1 rfl _ _ _ w.heap.size _ rfl (load137 ((B0.put 0 _).put 1 _))) rfl (RHead.pass ?_ B0 hby (((Ext.refl w).alloc _).trans hx1)) <;> clear hx1 B0 k0 f0 hby
       simp only [beq_iff_eq, beq_eq_false_iff_ne, bne_iff_ne, bne_eq_false_iff_eq] at *
       subst_vars
       unfold twoS wS
       rw [HWD.out, HWS.out]
       repeat (first | rw [if_pos (by omega)] | rw [if_neg (by omega)])
       all_goals rfl)
    | (refine bodyPost_ret (res1 rfl _ _ _ w.heap.size _ rfl (load137 (c0 := .slice none 0 0) (c1 := .int .i64 0) (Blk.new w _ 137))) rfl (RHead.mk (l := []) (n := 0) (t := 0) ?_ rfl (Byts.nil _) ((Ext.refl _).alloc _))
       simp only [beq_iff_eq, beq_eq_false_iff_ne, bne_iff_ne, bne_eq_false_iff_eq] at *
       subst_vars
       unfold twoS wS
       rw [HWD.out, HWS.out]
       repeat (first | rw [if_pos (by omega)] | rw [if_neg (by omega)])
       all_goals rfl)
theorem two_E_16_8 (op d s : Int) (w : World) (o1 : 2 ≤ op) (o2 : op ≤ 9) (hwd : wideS d = 16) (hws : wideS s = 8) (d1 : 9 ≤ d) (d2 : d ≤ 16) (s1 : 1 ≤ s) (s2 : s ≤ 8) : Calls Tryz.prog 157 #[.int .i64 op, .int .i64 d, .int .i64 s] w (RHead w (twoS op d s)) := by
  have hnd := numS_range d
  have hns := numS_range s
  have MM := Lib.hid (M2.of op d s)
  unfold M2 at MM
  have HWD := Lib.hid hwd; have HWS := Lib.hid hws
  clear hwd hws
  have e1 : (d == 1) = false := by simp; omega
  have e17 : (d == 17) = false := by simp; omega
  have e18 : (d == 18) = false := by simp; omega
  have e19 : (d == 19) = false := by simp; omega
  have e20 : (d == 20) = false := by simp; omega
  have g9 : (s == 9) = false := by simp; omega
  have g17 : (s == 17) = false := by simp; omega
  have g18 : (s == 18) = false := by simp; omega
  have g19 : (s == 19) = false := by simp; omega
  have g20 : (s == 20) = false := by simp; omega
  have ng9 : (s != 9) = true := by simp; omega
  have hb : bits .and .u8 (op - 2) 7 = op - 2 := by rw [band7 _ (by omega) (by omega)]; omega
  have p1 : (op == 1) = false := by simp; omega
  have p17 : (op == 17) = false := by simp; omega
  have p30 : (op == 30) = false := by simp; omega
  have p31 : (op == 31) = false := by simp; omega
  go_enter Tryz.func157, Tryz.ntmps157
  go_wp2_with (first
    | (go_at_call 191; ((with_reducible refine (wide_any _ _).mono ?_); (first | rw [HWD.out] | rw [HWS.out] | rw [show wideS 1 = 8 from rfl] | rw [show wideS 9 = 16 from rfl] | rw [show wideS 17 = 0 from rfl] | rw [show wideS 18 = 0 from rfl] | rw [show wideS 19 = 0 from rfl] | rw [show wideS 20 = 0 from rfl]); rintro e w' ⟨rfl, rfl⟩))
    | (go_at_call 193; ((with_reducible refine (num_any _ (by omega) (by omega) _).mono ?_); rintro e w' ⟨rfl, rfl⟩))
    | (go_at_call 195; ((with_reducible refine (mem_any _ _ (by omega) (by omega) _).mono ?_); rintro e w' ⟨rfl, rfl⟩))
    | (go_at_call 192; ((with_reducible refine (rm_any _ _ (by omega) (by omega) _).mono ?_); rintro e w' ⟨rfl, rfl⟩))
    | (go_at_call 194; ((with_reducible refine (places_any _ _ _).mono ?_); rintro e w1 ⟨A, c, rfl, hby, hx1⟩; have B0 := (Blk.new w #[.slice none 0 0, .int .i64 0] 137).ext hx1; have k0 := B0.cell; have f0 := B0.frozen))
    | (go_at_call 159; ((with_reducible refine (of159_any _ _ _ _ _).mono ?_); rintro e w1 ⟨rfl, hx1⟩; have B0 := ((Blk.new w #[.slice none 0 0, .int .i64 0] 137).alloc _).ext hx1; have k0 := B0.cell; have f0 := B0.frozen)))
  all_goals first
    | (refine bodyPost_ret (res1 rfl _ _ _ w.heap.size _ rfl (load137 ((B0.put 0 _).put 1 _))) rfl (head_end2 (w.alloc (.cells #[.slice none 0 0, .int .i64 0] 137)) _ _ ?_ ?_ ?_ ((Ext.refl w).alloc _) (by simp) (by simp) hx1) <;> clear hx1 B0 k0 f0
       · simp only [beq_iff_eq, beq_eq_false_iff_ne, bne_iff_ne, bne_eq_false_iff_eq] at *
         subst_vars
         unfold twoS wS
         rw [HWD.out, HWS.out]
         repeat (first | rw [if_pos (by omega)] | rw [if_neg (by omega)])
         all_goals rfl
       · have M := MM.out
         subst_vars
         first | omega | decide
       · have M := MM.out
         subst_vars
         first | omega | decide)
    | (refine bodyPost_ret (res1 rfl _ _ _ w.heap.size _ rfl (load137 ((B0.put 0 _).put 1 _))) rfl (head_end1 (w.alloc (.cells #[.slice none 0 0, .int .i64 0] 137)) _ _ ?_ ?_ ((Ext.refl w).alloc _) (by simp) (by simp) hx1) <;> clear hx1 B0 k0 f0
       · simp only [beq_iff_eq, beq_eq_false_iff_ne, bne_iff_ne, bne_eq_false_iff_eq] at *
         subst_vars
         unfold twoS wS
         rw [HWD.out, HWS.out]
         repeat (first | rw [if_pos (by omega)] | rw [if_neg (by omega)])
         all_goals rfl
       · have M := MM.out
         subst_vars
         omega)
    | (refine bodyPost_ret (res1 rfl _ _ _ w.heap.size _ rfl (load137 ((B0.put 0 _).put 1 _))) rfl (RHead.pass ?_ B0 hby (((Ext.refl w).alloc _).trans hx1)) <;> clear hx1 B0 k0 f0 hby
       simp only [beq_iff_eq, beq_eq_false_iff_ne, bne_iff_ne, bne_eq_false_iff_eq] at *
       subst_vars
       unfold twoS wS
       rw [HWD.out, HWS.out]
       repeat (first | rw [if_pos (by omega)] | rw [if_neg (by omega)])
       all_goals rfl)
    | (refine bodyPost_ret (res1 rfl _ _ _ w.heap.size _ rfl (load137 (c0 := .slice none 0 0) (c1 := .int .i64 0) (Blk.new w _ 137))) rfl (RHead.mk (l := []) (n := 0) (t := 0) ?_ rfl (Byts.nil _) ((Ext.refl _).alloc _))
       simp only [beq_iff_eq, beq_eq_false_iff_ne, bne_iff_ne, bne_eq_false_iff_eq] at *
       subst_vars
       unfold twoS wS
       rw [HWD.out, HWS.out]
       repeat (first | rw [if_pos (by omega)] | rw [if_neg (by omega)])
       all_goals rfl)
theorem two_E_16_16 (op d s : Int) (w : World) (o1 : 2 ≤ op) (o2 : op ≤ 9) (hwd : wideS d = 16) (hws : wideS s = 16) (d1 : 9 ≤ d) (d2 : d ≤ 16) (s1 : 9 ≤ s) (s2 : s ≤ 16) : Calls Tryz.prog 157 #[.int .i64 op, .int .i64 d, .int .i64 s] w (RHead w (twoS op d s)) := by
  have hnd := numS_range d
  have hns := numS_range s
  have MM := Lib.hid (M2.of op d s)
  unfold M2 at MM
  have HWD := Lib.hid hwd; have HWS := Lib.hid hws
  clear hwd hws
  have e1 : (d == 1) = false := by simp; omega
  have e17 : (d == 17) = false := by simp; omega
  have e18 : (d == 18) = false := by simp; omega
  have e19 : (d == 19) = false := by simp; omega
  have e20 : (d == 20) = false := by simp; omega
  have g1 : (s == 1) = false := by simp; omega
  have g17 : (s == 17) = false := by simp; omega
  have g18 : (s == 18) = false := by simp; omega
  have g19 : (s == 19) = false := by simp; omega
  have g20 : (s == 20) = false := by simp; omega
  have hb : bits .and .u8 (op - 2) 7 = op - 2 := by rw [band7 _ (by omega) (by omega)]; omega
  have p1 : (op == 1) = false := by simp; omega
  have p17 : (op == 17) = false := by simp; omega
  have p30 : (op == 30) = false := by simp; omega
  have p31 : (op == 31) = false := by simp; omega
  go_enter Tryz.func157, Tryz.ntmps157
  go_wp2_with (first
    | (go_at_call 191; ((with_reducible refine (wide_any _ _).mono ?_); (first | rw [HWD.out] | rw [HWS.out] | rw [show wideS 1 = 8 from rfl] | rw [show wideS 9 = 16 from rfl] | rw [show wideS 17 = 0 from rfl] | rw [show wideS 18 = 0 from rfl] | rw [show wideS 19 = 0 from rfl] | rw [show wideS 20 = 0 from rfl]); rintro e w' ⟨rfl, rfl⟩))
    | (go_at_call 193; ((with_reducible refine (num_any _ (by omega) (by omega) _).mono ?_); rintro e w' ⟨rfl, rfl⟩))
    | (go_at_call 195; ((with_reducible refine (mem_any _ _ (by omega) (by omega) _).mono ?_); rintro e w' ⟨rfl, rfl⟩))
    | (go_at_call 192; ((with_reducible refine (rm_any _ _ (by omega) (by omega) _).mono ?_); rintro e w' ⟨rfl, rfl⟩))
    | (go_at_call 194; ((with_reducible refine (places_any _ _ _).mono ?_); rintro e w1 ⟨A, c, rfl, hby, hx1⟩; have B0 := (Blk.new w #[.slice none 0 0, .int .i64 0] 137).ext hx1; have k0 := B0.cell; have f0 := B0.frozen))
    | (go_at_call 159; ((with_reducible refine (of159_any _ _ _ _ _).mono ?_); rintro e w1 ⟨rfl, hx1⟩; have B0 := ((Blk.new w #[.slice none 0 0, .int .i64 0] 137).alloc _).ext hx1; have k0 := B0.cell; have f0 := B0.frozen)))
  all_goals first
    | (refine bodyPost_ret (res1 rfl _ _ _ w.heap.size _ rfl (load137 ((B0.put 0 _).put 1 _))) rfl (head_end2 (w.alloc (.cells #[.slice none 0 0, .int .i64 0] 137)) _ _ ?_ ?_ ?_ ((Ext.refl w).alloc _) (by simp) (by simp) hx1) <;> clear hx1 B0 k0 f0
       · simp only [beq_iff_eq, beq_eq_false_iff_ne, bne_iff_ne, bne_eq_false_iff_eq] at *
         subst_vars
         unfold twoS wS
         rw [HWD.out, HWS.out]
         repeat (first | rw [if_pos (by omega)] | rw [if_neg (by omega)])
         all_goals rfl
       · have M := MM.out
         subst_vars
         first | omega | decide
       · have M := MM.out
         subst_vars
         first | omega | decide)
    | (refine bodyPost_ret (res1 rfl _ _ _ w.heap.size _ rfl (load137 ((B0.put 0 _).put 1 _))) rfl (head_end1 (w.alloc (.cells #[.slice none 0 0, .int .i64 0] 137)) _ _ ?_ ?_ ((Ext.refl w).alloc _) (by simp) (by simp) hx1) <;> clear hx1 B0 k0 f0
       · simp only [beq_iff_eq, beq_eq_false_iff_ne, bne_iff_ne, bne_eq_false_iff_eq] at *
         subst_vars
         unfold twoS wS
         rw [HWD.out, HWS.out]
         repeat (first | rw [if_pos (by omega)] | rw [if_neg (by omega)])
         all_goals rfl
       · have M := MM.out
         subst_vars
         omega)
    | (refine bodyPost_ret (res1 rfl _ _ _ w.heap.size _ rfl (load137 ((B0.put 0 _).put 1 _))) rfl (RHead.pass ?_ B0 hby (((Ext.refl w).alloc _).trans hx1)) <;> clear hx1 B0 k0 f0 hby
       simp only [beq_iff_eq, beq_eq_false_iff_ne, bne_iff_ne, bne_eq_false_iff_eq] at *
       subst_vars
       unfold twoS wS
       rw [HWD.out, HWS.out]
       repeat (first | rw [if_pos (by omega)] | rw [if_neg (by omega)])
       all_goals rfl)
    | (refine bodyPost_ret (res1 rfl _ _ _ w.heap.size _ rfl (load137 (c0 := .slice none 0 0) (c1 := .int .i64 0) (Blk.new w _ 137))) rfl (RHead.mk (l := []) (n := 0) (t := 0) ?_ rfl (Byts.nil _) ((Ext.refl _).alloc _))
       simp only [beq_iff_eq, beq_eq_false_iff_ne, bne_iff_ne, bne_eq_false_iff_eq] at *
       subst_vars
       unfold twoS wS
       rw [HWD.out, HWS.out]
       repeat (first | rw [if_pos (by omega)] | rw [if_neg (by omega)])
       all_goals rfl)
theorem two_E_16_0 (op d s : Int) (w : World) (o1 : 2 ≤ op) (o2 : op ≤ 9) (hwd : wideS d = 16) (hws : wideS s = 0) (d1 : 9 ≤ d) (d2 : d ≤ 16) (s1 : s < 1 ∨ 16 < s) : Calls Tryz.prog 157 #[.int .i64 op, .int .i64 d, .int .i64 s] w (RHead w (twoS op d s)) := by
  have hnd := numS_range d
  have hns := numS_range s
  have MM := Lib.hid (M2.of op d s)
  unfold M2 at MM
  have HWD := Lib.hid hwd; have HWS := Lib.hid hws
  clear hwd hws
  have e1 : (d == 1) = false := by simp; omega
  have e17 : (d == 17) = false := by simp; omega
  have e18 : (d == 18) = false := by simp; omega
  have e19 : (d == 19) = false := by simp; omega
  have e20 : (d == 20) = false := by simp; omega
  have g1 : (s == 1) = false := by simp; omega
  have g9 : (s == 9) = false := by simp; omega
  have ng9 : (s != 9) = true := by simp; omega
  have hb : bits .and .u8 (op - 2) 7 = op - 2 := by rw [band7 _ (by omega) (by omega)]; omega
  have p1 : (op == 1) = false := by simp; omega
  have p17 : (op == 17) = false := by simp; omega
  have p30 : (op == 30) = false := by simp; omega
  have p31 : (op == 31) = false := by simp; omega
  go_enter Tryz.func157, Tryz.ntmps157
  go_wp2_with (first
    | (go_at_call 191; ((with_reducible refine (wide_any _ _).mono ?_); (first | rw [HWD.out] | rw [HWS.out] | rw [show wideS 1 = 8 from rfl] | rw [show wideS 9 = 16 from rfl] | rw [show wideS 17 = 0 from rfl] | rw [show wideS 18 = 0 from rfl] | rw [show wideS 19 = 0 from rfl] | rw [show wideS 20 = 0 from rfl]); rintro e w' ⟨rfl, rfl⟩))
    | (go_at_call 193; ((with_reducible refine (num_any _ (by omega) (by omega) _).mono ?_); rintro e w' ⟨rfl, rfl⟩))
    | (go_at_call 195; ((with_reducible refine (mem_any _ _ (by omega) (by omega) _).mono ?_); rintro e w' ⟨rfl, rfl⟩))
    | (go_at_call 192; ((with_reducible refine (rm_any _ _ (by omega) (by omega) _).mono ?_); rintro e w' ⟨rfl, rfl⟩))
    | (go_at_call 194; ((with_reducible refine (places_any _ _ _).mono ?_); rintro e w1 ⟨A, c, rfl, hby, hx1⟩; have B0 := (Blk.new w #[.slice none 0 0, .int .i64 0] 137).ext hx1; have k0 := B0.cell; have f0 := B0.frozen))
    | (go_at_call 159; ((with_reducible refine (of159_any _ _ _ _ _).mono ?_); rintro e w1 ⟨rfl, hx1⟩; have B0 := ((Blk.new w #[.slice none 0 0, .int .i64 0] 137).alloc _).ext hx1; have k0 := B0.cell; have f0 := B0.frozen)))
  all_goals first
    | (refine bodyPost_ret (res1 rfl _ _ _ w.heap.size _ rfl (load137 ((B0.put 0 _).put 1 _))) rfl (head_end2 (w.alloc (.cells #[.slice none 0 0, .int .i64 0] 137)) _ _ ?_ ?_ ?_ ((Ext.refl w).alloc _) (by simp) (by simp) hx1) <;> clear hx1 B0 k0 f0
       · simp only [beq_iff_eq, beq_eq_false_iff_ne, bne_iff_ne, bne_eq_false_iff_eq] at *
         subst_vars
         unfold twoS wS
         rw [HWD.out, HWS.out]
         repeat (first | rw [if_pos (by omega)] | rw [if_neg (by omega)])
         all_goals rfl
       · have M := MM.out
         subst_vars
         first | omega | decide
       · have M := MM.out
         subst_vars
         first | omega | decide)
    | (refine bodyPost_ret (res1 rfl _ _ _ w.heap.size _ rfl (load137 ((B0.put 0 _).put 1 _))) rfl (head_end1 (w.alloc (.cells #[.slice none 0 0, .int .i64 0] 137)) _ _ ?_ ?_ ((Ext.refl w).alloc _) (by simp) (by simp) hx1) <;> clear hx1 B0 k0 f0
       · simp only [beq_iff_eq, beq_eq_false_iff_ne, bne_iff_ne, bne_eq_false_iff_eq] at *
         subst_vars
         unfold twoS wS
         rw [HWD.out, HWS.out]
         repeat (first | rw [if_pos (by omega)] | rw [if_neg (by omega)])
         all_goals rfl
       · have M := MM.out
         subst_vars
         omega)
    | (refine bodyPost_ret (res1 rfl _ _ _ w.heap.size _ rfl (load137 ((B0.put 0 _).put 1 _))) rfl (RHead.pass ?_ B0 hby (((Ext.refl w).alloc _).trans hx1)) <;> clear hx1 B0 k0 f0 hby
       simp only [beq_iff_eq, beq_eq_false_iff_ne, bne_iff_ne, bne_eq_false_iff_eq] at *
       subst_vars
       unfold twoS wS
       rw [HWD.out, HWS.out]
       repeat (first | rw [if_pos (by omega)] | rw [if_neg (by omega)])
       all_goals rfl)
    | (refine bodyPost_ret (res1 rfl _ _ _ w.heap.size _ rfl (load137 (c0 := .slice none 0 0) (c1 := .int .i64 0) (Blk.new w _ 137))) rfl (RHead.mk (l := []) (n := 0) (t := 0) ?_ rfl (Byts.nil _) ((Ext.refl _).alloc _))
       simp only [beq_iff_eq, beq_eq_false_iff_ne, bne_iff_ne, bne_eq_false_iff_eq] at *
       subst_vars
       unfold twoS wS
       rw [HWD.out, HWS.out]
       repeat (first | rw [if_pos (by omega)] | rw [if_neg (by omega)])
       all_goals rfl)
theorem two_E_0_8 (op d s : Int) (w : World) (o1 : 2 ≤ op) (o2 : op ≤ 9) (hwd : wideS d = 0) (hws : wideS s = 8) (d1 : d < 1 ∨ 16 < d) (s1 : 1 ≤ s) (s2 : s ≤ 8) : Calls Tryz.prog 157 #[.int .i64 op, .int .i64 d, .int .i64 s] w (RHead w (twoS op d s)) := by
  have hnd := numS_range d
  have hns := numS_range s
  have MM := Lib.hid (M2.of op d s)
  unfold M2 at MM
  have HWD := Lib.hid hwd; have HWS := Lib.hid hws
  clear hwd hws
  have e1 : (d == 1) = false := by simp; omega
  have e9 : (d == 9) = false := by simp; omega
  have g9 : (s == 9) = false := by simp; omega
  have g17 : (s == 17) = false := by simp; omega
  have g18 : (s == 18) = false := by simp; omega
  have g19 : (s == 19) = false := by simp; omega
  have g20 : (s == 20) = false := by simp; omega
  have ne9 : (d != 9) = true := by simp; omega
  have ng9 : (s != 9) = true := by simp; omega
  have hb : bits .and .u8 (op - 2) 7 = op - 2 := by rw [band7 _ (by omega) (by omega)]; omega
  have p1 : (op == 1) = false := by simp; omega
  have p17 : (op == 17) = false := by simp; omega
  have p30 : (op == 30) = false := by simp; omega
  have p31 : (op == 31) = false := by simp; omega
  go_enter Tryz.func157, Tryz.ntmps157
  go_wp2_with (first
    | (go_at_call 191; ((with_reducible refine (wide_any _ _).mono ?_); (first | rw [HWD.out] | rw [HWS.out] | rw [show wideS 1 = 8 from rfl] | rw [show wideS 9 = 16 from rfl] | rw [show wideS 17 = 0 from rfl] | rw [show wideS 18 = 0 from rfl] | rw [show wideS 19 = 0 from rfl] | rw [show wideS 20 = 0 from rfl]); rintro e w' ⟨rfl, rfl⟩))
    | (go_at_call 193; ((with_reducible refine (num_any _ (by omega) (by omega) _).mono ?_); rintro e w' ⟨rfl, rfl⟩))
    | (go_at_call 195; ((with_reducible refine (mem_any _ _ (by omega) (by omega) _).mono ?_); rintro e w' ⟨rfl, rfl⟩))
    | (go_at_call 192; ((with_reducible refine (rm_any _ _ (by omega) (by omega) _).mono ?_); rintro e w' ⟨rfl, rfl⟩))
    | (go_at_call 194; ((with_reducible refine (places_any _ _ _).mono ?_); rintro e w1 ⟨A, c, rfl, hby, hx1⟩; have B0 := (Blk.new w #[.slice none 0 0, .int .i64 0] 137).ext hx1; have k0 := B0.cell; have f0 := B0.frozen))
    | (go_at_call 159; ((with_reducible refine (of159_any _ _ _ _ _).mono ?_); rintro e w1 ⟨rfl, hx1⟩; have B0 := ((Blk.new w #[.slice none 0 0, .int .i64 0] 137).alloc _).ext hx1; have k0 := B0.cell; have f0 := B0.frozen)))
  all_goals first
    | (refine bodyPost_ret (res1 rfl _ _ _ w.heap.size _ rfl (load137 ((B0.put 0 _).put 1 _))) rfl (head_end2 (w.alloc (.cells #[.slice none 0 0, .int .i64 0] 137)) _ _ ?_ ?_ ?_ ((Ext.refl w).alloc _) (by simp) (by simp) hx1) <;> clear hx1 B0 k0 f0
       · simp only [beq_iff_eq, beq_eq_false_iff_ne, bne_iff_ne, bne_eq_false_iff_eq] at *
         subst_vars
         unfold twoS wS
         rw [HWD.out, HWS.out]
         repeat (first | rw [if_pos (by omega)] | rw [if_neg (by omega)])
         all_goals rfl
       · have M := MM.out
         subst_vars
         first | omega | decide
       · have M := MM.out
         subst_vars
         first | omega | decide)
    | (refine bodyPost_ret (res1 rfl _ _ _ w.heap.size _ rfl (load137 ((B0.put 0 _).put 1 _))) rfl (head_end1 (w.alloc (.cells #[.slice none 0 0, .int .i64 0] 137)) _ _ ?_ ?_ ((Ext.refl w).alloc _) (by simp) (by simp) hx1) <;> clear hx1 B0 k0 f0
       · simp only [beq_iff_eq, beq_eq_false_iff_ne, bne_iff_ne, bne_eq_false_iff_eq] at *
         subst_vars
         unfold twoS wS
         rw [HWD.out, HWS.out]
         repeat (first | rw [if_pos (by omega)] | rw [if_neg (by omega)])
         all_goals rfl
       · have M := MM.out
         subst_vars
         omega)
    | (refine bodyPost_ret (res1 rfl _ _ _ w.heap.size _ rfl (load137 ((B0.put 0 _).put 1 _))) rfl (RHead.pass ?_ B0 hby (((Ext.refl w).alloc _).trans hx1)) <;> clear hx1 B0 k0 f0 hby
       simp only [beq_iff_eq, beq_eq_false_iff_ne, bne_iff_ne, bne_eq_false_iff_eq] at *
       subst_vars
       unfold twoS wS
       rw [HWD.out, HWS.out]
       repeat (first | rw [if_pos (by omega)] | rw [if_neg (by omega)])
       all_goals rfl)
    | (refine bodyPost_ret (res1 rfl _ _ _ w.heap.size _ rfl (load137 (c0 := .slice none 0 0) (c1 := .int .i64 0) (Blk.new w _ 137))) rfl (RHead.mk (l := []) (n := 0) (t := 0) ?_ rfl (Byts.nil _) ((Ext.refl _).alloc _))
       simp only [beq_iff_eq, beq_eq_false_iff_ne, bne_iff_ne, bne_eq_false_iff_eq] at *
       subst_vars
       unfold twoS wS
       rw [HWD.out, HWS.out]
       repeat (first | rw [if_pos (by omega)] | rw [if_neg (by omega)])
       all_goals rfl)
theorem two_E_0_16 (op d s : Int) (w : World) (o1 : 2 ≤ op) (o2 : op ≤ 9) (hwd : wideS d = 0) (hws : wideS s = 16) (d1 : d < 1 ∨ 16 < d) (s1 : 9 ≤ s) (s2 : s ≤ 16) : Calls Tryz.prog 157 #[.int .i64 op, .int .i64 d, .int .i64 s] w (RHead w (twoS op d s)) := by
  have hnd := numS_range d
  have hns := numS_range s
  have MM := Lib.hid (M2.of op d s)
  unfold M2 at MM
  have HWD := Lib.hid hwd; have HWS := Lib.hid hws
  clear hwd hws
  have e1 : (d == 1) = false := by simp; omega
  have e9 : (d == 9) = false := by simp; omega
  have g1 : (s == 1) = false := by simp; omega
  have g17 : (s == 17) = false := by simp; omega
  have g18 : (s == 18) = false := by simp; omega
  have g19 : (s == 19) = false := by simp; omega
  have g20 : (s == 20) = false := by simp; omega
  have ne9 : (d != 9) = true := by simp; omega
  have hb : bits .and .u8 (op - 2) 7 = op - 2 := by rw [band7 _ (by omega) (by omega)]; omega
  have p1 : (op == 1) = false := by simp; omega
  have p17 : (op == 17) = false := by simp; omega
  have p30 : (op == 30) = false := by simp; omega
  have p31 : (op == 31) = false := by simp; omega
  go_enter Tryz.func157, Tryz.ntmps157
  go_wp2_with (first
    | (go_at_call 191; ((with_reducible refine (wide_any _ _).mono ?_); (first | rw [HWD.out] | rw [HWS.out] | rw [show wideS 1 = 8 from rfl] | rw [show wideS 9 = 16 from rfl] | rw [show wideS 17 = 0 from rfl] | rw [show wideS 18 = 0 from rfl] | rw [show wideS 19 = 0 from rfl] | rw [show wideS 20 = 0 from rfl]); rintro e w' ⟨rfl, rfl⟩))
    | (go_at_call 193; ((with_reducible refine (num_any _ (by omega) (by omega) _).mono ?_); rintro e w' ⟨rfl, rfl⟩))
    | (go_at_call 195; ((with_reducible refine (mem_any _ _ (by omega) (by omega) _).mono ?_); rintro e w' ⟨rfl, rfl⟩))
    | (go_at_call 192; ((with_reducible refine (rm_any _ _ (by omega) (by omega) _).mono ?_); rintro e w' ⟨rfl, rfl⟩))
    | (go_at_call 194; ((with_reducible refine (places_any _ _ _).mono ?_); rintro e w1 ⟨A, c, rfl, hby, hx1⟩; have B0 := (Blk.new w #[.slice none 0 0, .int .i64 0] 137).ext hx1; have k0 := B0.cell; have f0 := B0.frozen))
    | (go_at_call 159; ((with_reducible refine (of159_any _ _ _ _ _).mono ?_); rintro e w1 ⟨rfl, hx1⟩; have B0 := ((Blk.new w #[.slice none 0 0, .int .i64 0] 137).alloc _).ext hx1; have k0 := B0.cell; have f0 := B0.frozen)))
  all_goals first
    | (refine bodyPost_ret (res1 rfl _ _ _ w.heap.size _ rfl (load137 ((B0.put 0 _).put 1 _))) rfl (head_end2 (w.alloc (.cells #[.slice none 0 0, .int .i64 0] 137)) _ _ ?_ ?_ ?_ ((Ext.refl w).alloc _) (by simp) (by simp) hx1) <;> clear hx1 B0 k0 f0
       · simp only [beq_iff_eq, beq_eq_false_iff_ne, bne_iff_ne, bne_eq_false_iff_eq] at *
         subst_vars
         unfold twoS wS
         rw [HWD.out, HWS.out]
         repeat (first | rw [if_pos (by omega)] | rw [if_neg (by omega)])
         all_goals rfl
       · have M := MM.out
         subst_vars
         first | omega | decide
       · have M := MM.out
         subst_vars
         first | omega | decide)
    | (refine bodyPost_ret (res1 rfl _ _ _ w.heap.size _ rfl (load137 ((B0.put 0 _).put 1 _))) rfl (head_end1 (w.alloc (.cells #[.slice none 0 0, .int .i64 0] 137)) _ _ ?_ ?_ ((Ext.refl w).alloc _) (by simp) (by simp) hx1) <;> clear hx1 B0 k0 f0
       · simp only [beq_iff_eq, beq_eq_false_iff_ne, bne_iff_ne, bne_eq_false_iff_eq] at *
         subst_vars
         unfold twoS wS
         rw [HWD.out, HWS.out]
         repeat (first | rw [if_pos (by omega)] | rw [if_neg (by omega)])
         all_goals rfl
       · have M := MM.out
         subst_vars
         omega)
    | (refine bodyPost_ret (res1 rfl _ _ _ w.heap.size _ rfl (load137 ((B0.put 0 _).put 1 _))) rfl (RHead.pass ?_ B0 hby (((Ext.refl w).alloc _).trans hx1)) <;> clear hx1 B0 k0 f0 hby
       simp only [beq_iff_eq, beq_eq_false_iff_ne, bne_iff_ne, bne_eq_false_iff_eq] at *
       subst_vars
       unfold twoS wS
       rw [HWD.out, HWS.out]
       repeat (first | rw [if_pos (by omega)] | rw [if_neg (by omega)])
       all_goals rfl)
    | (refine bodyPost_ret (res1 rfl _ _ _ w.heap.size _ rfl (load137 (c0 := .slice none 0 0) (c1 := .int .i64 0) (Blk.new w _ 137))) rfl (RHead.mk (l := []) (n := 0) (t := 0) ?_ rfl (Byts.nil _) ((Ext.refl _).alloc _))
       simp only [beq_iff_eq, beq_eq_false_iff_ne, bne_iff_ne, bne_eq_false_iff_eq] at *
       subst_vars
       unfold twoS wS
       rw [HWD.out, HWS.out]
       repeat (first | rw [if_pos (by omega)] | rw [if_neg (by omega)])
       all_goals rfl)
theorem two_E_0_0 (op d s : Int) (w : World) (o1 : 2 ≤ op) (o2 : op ≤ 9) (hwd : wideS d = 0) (hws : wideS s = 0) (d1 : d < 1 ∨ 16 < d) (s1 : s < 1 ∨ 16 < s) : Calls Tryz.prog 157 #[.int .i64 op, .int .i64 d, .int .i64 s] w (RHead w (twoS op d s)) := by
  have hnd := numS_range d
  have hns := numS_range s
  have MM := Lib.hid (M2.of op d s)
  unfold M2 at MM
  have HWD := Lib.hid hwd; have HWS := Lib.hid hws
  clear hwd hws
  have e1 : (d == 1) = false := by simp; omega
  have e9 : (d == 9) = false := by simp; omega
  have g1 : (s == 1) = false := by simp; omega
  have g9 : (s == 9) = false := by simp; omega
  have ne9 : (d != 9) = true := by simp; omega
  have ng9 : (s != 9) = true := by simp; omega
  have hb : bits .and .u8 (op - 2) 7 = op - 2 := by rw [band7 _ (by omega) (by omega)]; omega
  have p1 : (op == 1) = false := by simp; omega
  have p17 : (op == 17) = false := by simp; omega
  have p30 : (op == 30) = false := by simp; omega
  have p31 : (op == 31) = false := by simp; omega
  go_enter Tryz.func157, Tryz.ntmps157
  go_wp2_with (first
    | (go_at_call 191; ((with_reducible refine (wide_any _ _).mono ?_); (first | rw [HWD.out] | rw [HWS.out] | rw [show wideS 1 = 8 from rfl] | rw [show wideS 9 = 16 from rfl] | rw [show wideS 17 = 0 from rfl] | rw [show wideS 18 = 0 from rfl] | rw [show wideS 19 = 0 from rfl] | rw [show wideS 20 = 0 from rfl]); rintro e w' ⟨rfl, rfl⟩))
    | (go_at_call 193; ((with_reducible refine (num_any _ (by omega) (by omega) _).mono ?_); rintro e w' ⟨rfl, rfl⟩))
    | (go_at_call 195; ((with_reducible refine (mem_any _ _ (by omega) (by omega) _).mono ?_); rintro e w' ⟨rfl, rfl⟩))
    | (go_at_call 192; ((with_reducible refine (rm_any _ _ (by omega) (by omega) _).mono ?_); rintro e w' ⟨rfl, rfl⟩))
    | (go_at_call 194; ((with_reducible refine (places_any _ _ _).mono ?_); rintro e w1 ⟨A, c, rfl, hby, hx1⟩; have B0 := (Blk.new w #[.slice none 0 0, .int .i64 0] 137).ext hx1; have k0 := B0.cell; have f0 := B0.frozen))
    | (go_at_call 159; ((with_reducible refine (of159_any _ _ _ _ _).mono ?_); rintro e w1 ⟨rfl, hx1⟩; have B0 := ((Blk.new w #[.slice none 0 0, .int .i64 0] 137).alloc _).ext hx1; have k0 := B0.cell; have f0 := B0.frozen)))
  all_goals first
    | (refine bodyPost_ret (res1 rfl _ _ _ w.heap.size _ rfl (load137 ((B0.put 0 _).put 1 _))) rfl (head_end2 (w.alloc (.cells #[.slice none 0 0, .int .i64 0] 137)) _ _ ?_ ?_ ?_ ((Ext.refl w).alloc _) (by simp) (by simp) hx1) <;> clear hx1 B0 k0 f0
       · simp only [beq_iff_eq, beq_eq_false_iff_ne, bne_iff_ne, bne_eq_false_iff_eq] at *
         subst_vars
         unfold twoS wS
         rw [HWD.out, HWS.out]
         repeat (first | rw [if_pos (by omega)] | rw [if_neg (by omega)])
         all_goals rfl
       · have M := MM.out
         subst_vars
         first | omega | decide
       · have M := MM.out
         subst_vars
         first | omega | decide)
    | (refine bodyPost_ret (res1 rfl _ _ _ w.heap.size _ rfl (load137 ((B0.put 0 _).put 1 _))) rfl (head_end1 (w.alloc (.cells #[.slice none 0 0, .int .i64 0] 137)) _ _ ?_ ?_ ((Ext.refl w).alloc _) (by simp) (by simp) hx1) <;> clear hx1 B0 k0 f0
       · simp only [beq_iff_eq, beq_eq_false_iff_ne, bne_iff_ne, bne_eq_false_iff_eq] at *
         subst_vars
         unfold twoS wS
         rw [HWD.out, HWS.out]
         repeat (first | rw [if_pos (by omega)] | rw [if_neg (by omega)])
         all_goals rfl
       · have M := MM.out
         subst_vars
         omega)
    | (refine bodyPost_ret (res1 rfl _ _ _ w.heap.size _ rfl (load137 ((B0.put 0 _).put 1 _))) rfl (RHead.pass ?_ B0 hby (((Ext.refl w).alloc _).trans hx1)) <;> clear hx1 B0 k0 f0 hby
       simp only [beq_iff_eq, beq_eq_false_iff_ne, bne_iff_ne, bne_eq_false_iff_eq] at *
       subst_vars
       unfold twoS wS
       rw [HWD.out, HWS.out]
       repeat (first | rw [if_pos (by omega)] | rw [if_neg (by omega)])
       all_goals rfl)
    | (refine bodyPost_ret (res1 rfl _ _ _ w.heap.size _ rfl (load137 (c0 := .slice none 0 0) (c1 := .int .i64 0) (Blk.new w _ 137))) rfl (RHead.mk (l := []) (n := 0) (t := 0) ?_ rfl (Byts.nil _) ((Ext.refl _).alloc _))
       simp only [beq_iff_eq, beq_eq_false_iff_ne, bne_iff_ne, bne_eq_false_iff_eq] at *
       subst_vars
       unfold twoS wS
       rw [HWD.out, HWS.out]
       repeat (first | rw [if_pos (by omega)] | rw [if_neg (by omega)])
       all_goals rfl)
theorem two_F_8_8 (op d s : Int) (w : World) (o1 : 0 ≤ op ∧ op ≤ 255 ∧ (op < 1 ∨ 9 < op) ∧ op ≠ 17 ∧ op ≠ 30 ∧ op ≠ 31) (hwd : wideS d = 8) (hws : wideS s = 8) (d1 : 1 ≤ d) (d2 : d ≤ 8) (s1 : 1 ≤ s) (s2 : s ≤ 8) : Calls Tryz.prog 157 #[.int .i64 op, .int .i64 d, .int .i64 s] w (RHead w (twoS op d s)) := by
  have hnd := numS_range d
  have hns := numS_range s
  have MM := Lib.hid (M2.of op d s)
  unfold M2 at MM
  have HWD := Lib.hid hwd; have HWS := Lib.hid hws
  clear hwd hws
  have e9 : (d == 9) = false := by simp; omega
  have e17 : (d == 17) = false := by simp; omega
  have e18 : (d == 18) = false := by simp; omega
  have e19 : (d == 19) = false := by simp; omega
  have e20 : (d == 20) = false := by simp; omega
  have g9 : (s == 9) = false := by simp; omega
  have g17 : (s == 17) = false := by simp; omega
  have g18 : (s == 18) = false := by simp; omega
  have g19 : (s == 19) = false := by simp; omega
  have g20 : (s == 20) = false := by simp; omega
  have ne9 : (d != 9) = true := by simp; omega
  have ng9 : (s != 9) = true := by simp; omega
  have p1 : (op == 1) = false := by simp; omega
  have p17 : (op == 17) = false := by simp; omega
  have p30 : (op == 30) = false := by simp; omega
  have p31 : (op == 31) = false := by simp; omega
  go_enter Tryz.func157, Tryz.ntmps157
  go_wp2_with (first
    | (go_at_call 191; ((with_reducible refine (wide_any _ _).mono ?_); (first | rw [HWD.out] | rw [HWS.out] | rw [show wideS 1 = 8 from rfl] | rw [show wideS 9 = 16 from rfl] | rw [show wideS 17 = 0 from rfl] | rw [show wideS 18 = 0 from rfl] | rw [show wideS 19 = 0 from rfl] | rw [show wideS 20 = 0 from rfl]); rintro e w' ⟨rfl, rfl⟩))
    | (go_at_call 193; ((with_reducible refine (num_any _ (by omega) (by omega) _).mono ?_); rintro e w' ⟨rfl, rfl⟩))
    | (go_at_call 195; ((with_reducible refine (mem_any _ _ (by omega) (by omega) _).mono ?_); rintro e w' ⟨rfl, rfl⟩))
    | (go_at_call 192; ((with_reducible refine (rm_any _ _ (by omega) (by omega) _).mono ?_); rintro e w' ⟨rfl, rfl⟩))
    | (go_at_call 194; ((with_reducible refine (places_any _ _ _).mono ?_); rintro e w1 ⟨A, c, rfl, hby, hx1⟩; have B0 := (Blk.new w #[.slice none 0 0, .int .i64 0] 137).ext hx1; have k0 := B0.cell; have f0 := B0.frozen))
    | (go_at_call 159; ((with_reducible refine (of159_any _ _ _ _ _).mono ?_); rintro e w1 ⟨rfl, hx1⟩; have B0 := ((Blk.new w #[.slice none 0 0, .int .i64 0] 137).alloc _).ext hx1; have k0 := B0.cell; have f0 := B0.frozen)))
  all_goals first
    | (refine bodyPost_ret (res1 rfl _ _ _ w.heap.size _ rfl (load137 ((B0.put 0 _).put 1 _))) rfl (head_end2 (w.alloc (.cells #[.slice none 0 0, .int .i64 0] 137)) _ _ ?_ ?_ ?_ ((Ext.refl w).alloc _) (by simp) (by simp) hx1) <;> clear hx1 B0 k0 f0
       · simp only [beq_iff_eq, beq_eq_false_iff_ne, bne_iff_ne, bne_eq_false_iff_eq] at *
         subst_vars
         unfold twoS wS
         rw [HWD.out, HWS.out]
         repeat (first | rw [if_pos (by omega)] | rw [if_neg (by omega)])
         all_goals rfl
       · have M := MM.out
         subst_vars
         first | omega | decide
       · have M := MM.out
         subst_vars
         first | omega | decide)
    | (refine bodyPost_ret (res1 rfl _ _ _ w.heap.size _ rfl (load137 ((B0.put 0 _).put 1 _))) rfl (head_end1 (w.alloc (.cells #[.slice none 0 0, .int .i64 0] 137)) _ _ ?_ ?_ ((Ext.refl w).alloc _) (by simp) (by simp) hx1) <;> clear hx1 B0 k0 f0
       · simp only [beq_iff_eq, beq_eq_false_iff_ne, bne_iff_ne, bne_eq_false_iff_eq] at *
         subst_vars
         unfold twoS wS
         rw [HWD.out, HWS.out]
         repeat (first | rw [if_pos (by omega)] | rw [if_neg (by omega)])
         all_goals rfl
       · have M := MM.out
         subst_vars
         omega)
    | (refine bodyPost_ret (res1 rfl _ _ _ w.heap.size _ rfl (load137 ((B0.put 0 _).put 1 _))) rfl (RHead.pass ?_ B0 hby (((Ext.refl w).alloc _).trans hx1)) <;> clear hx1 B0 k0 f0 hby
       simp only [beq_iff_eq, beq_eq_false_iff_ne, bne_iff_ne, bne_eq_false_iff_eq] at *
       subst_vars
       unfold twoS wS
       rw [HWD.out, HWS.out]
       repeat (first | rw [if_pos (by omega)] | rw [if_neg (by omega)])
       all_goals rfl)
    | (refine bodyPost_ret (res1 rfl _ _ _ w.heap.size _ rfl (load137 (c0 := .slice none 0 0) (c1 := .int .i64 0) (Blk.new w _ 137))) rfl (RHead.mk (l := []) (n := 0) (t := 0) ?_ rfl (Byts.nil _) ((Ext.refl _).alloc _))
       simp only [beq_iff_eq, beq_eq_false_iff_ne, bne_iff_ne, bne_eq_false_iff_eq] at *
       subst_vars
       unfold twoS wS
       rw [HWD.out, HWS.out]
       repeat (first | rw [if_pos (by omega)] | rw [if_neg (by omega)])
       all_goals rfl)
theorem two_F_8_16 (op d s : Int) (w : World) (o1 : 0 ≤ op ∧ op ≤ 255 ∧ (op < 1 ∨ 9 < op) ∧ op ≠ 17 ∧ op ≠ 30 ∧ op ≠ 31) (hwd : wideS d = 8) (hws : wideS s = 16) (d1 : 1 ≤ d) (d2 : d ≤ 8) (s1 : 9 ≤ s) (s2 : s ≤ 16) : Calls Tryz.prog 157 #[.int .i64 op, .int .i64 d, .int .i64 s] w (RHead w (twoS op d s)) := by
  have hnd := numS_range d
  have hns := numS_range s
  have MM := Lib.hid (M2.of op d s)
  unfold M2 at MM
  have HWD := Lib.hid hwd; have HWS := Lib.hid hws
  clear hwd hws
  have e9 : (d == 9) = false := by simp; omega
  have e17 : (d == 17) = false := by simp; omega
  have e18 : (d == 18) = false := by simp; omega
  have e19 : (d == 19) = false := by simp; omega
  have e20 : (d == 20) = false := by simp; omega
  have g1 : (s == 1) = false := by simp; omega
  have g17 : (s == 17) = false := by simp; omega
  have g18 : (s == 18) = false := by simp; omega
  have g19 : (s == 19) = false := by simp; omega
  have g20 : (s == 20) = false := by simp; omega
  have ne9 : (d != 9) = true := by simp; omega
  have p1 : (op == 1) = false := by simp; omega
  have p17 : (op == 17) = false := by simp; omega
  have p30 : (op == 30) = false := by simp; omega
  have p31 : (op == 31) = false := by simp; omega
  go_enter Tryz.func157, Tryz.ntmps157
  go_wp2_with (first
    | (go_at_call 191; ((with_reducible refine (wide_any _ _).mono ?_); (first | rw [HWD.out] | rw [HWS.out] | rw [show wideS 1 = 8 from rfl] | rw [show wideS 9 = 16 from rfl] | rw [show wideS 17 = 0 from rfl] | rw [show wideS 18 = 0 from rfl] | rw [show wideS 19 = 0 from rfl] | rw [show wideS 20 = 0 from rfl]); rintro e w' ⟨rfl, rfl⟩))
    | (go_at_call 193; ((with_reducible refine (num_any _ (by omega) (by omega) _).mono ?_); rintro e w' ⟨rfl, rfl⟩))
    | (go_at_call 195; ((with_reducible refine (mem_any _ _ (by omega) (by omega) _).mono ?_); rintro e w' ⟨rfl, rfl⟩))
    | (go_at_call 192; ((with_reducible refine (rm_any _ _ (by omega) (by omega) _).mono ?_); rintro e w' ⟨rfl, rfl⟩))
    | (go_at_call 194; ((with_reducible refine (places_any _ _ _).mono ?_); rintro e w1 ⟨A, c, rfl, hby, hx1⟩; have B0 := (Blk.new w #[.slice none 0 0, .int .i64 0] 137).ext hx1; have k0 := B0.cell; have f0 := B0.frozen))
    | (go_at_call 159; ((with_reducible refine (of159_any _ _ _ _ _).mono ?_); rintro e w1 ⟨rfl, hx1⟩; have B0 := ((Blk.new w #[.slice none 0 0, .int .i64 0] 137).alloc _).ext hx1; have k0 := B0.cell; have f0 := B0.frozen)))
  all_goals first
    | (refine bodyPost_ret (res1 rfl _ _ _ w.heap.size _ rfl (load137 ((B0.put 0 _).put 1 _))) rfl (head_end2 (w.alloc (.cells #[.slice none 0 0, .int .i64 0] 137)) _ _ ?_ ?_ ?_ ((Ext.refl w).alloc _) (by simp) (by simp) hx1) <;> clear hx1 B0 k0 f0
       · simp only [beq_iff_eq, beq_eq_false_iff_ne, bne_iff_ne, bne_eq_false_iff_eq] at *
         subst_vars
         unfold twoS wS
         rw [HWD.out, HWS.out]
         repeat (first | rw [if_pos (by omega)] | rw [if_neg (by omega)])
         all_goals rfl
       · have M := MM.out
         subst_vars
         first | omega | decide
       · have M := MM.out
         subst_vars
         first | omega | decide)
    | (refine bodyPost_ret (res1 rfl _ _ _ w.heap.size _ rfl (load137 ((B0.put 0 _).put 1 _))) rfl (head_end1 (w.alloc (.cells #[.slice none 0 0, .int .i64 0] 137)) _ _ ?_ ?_ ((Ext.refl w).alloc _) (by simp) (by simp) hx1) <;> clear hx1 B0 k0 f0
       · simp only [beq_iff_eq, beq_eq_false_iff_ne, bne_iff_ne, bne_eq_false_iff_eq] at *
         subst_vars
         unfold twoS wS
         rw [HWD.out, HWS.out]
         repeat (first | rw [if_pos (by omega)] | rw [if_neg (by omega)])
         all_goals rfl
       · have M := MM.out
         subst_vars
         omega)
    | (refine bodyPost_ret (res1 rfl _ _ _ w.heap.size _ rfl (load137 ((B0.put 0 _).put 1 _))) rfl (RHead.pass ?_ B0 hby (((Ext.refl w).alloc _).trans hx1)) <;> clear hx1 B0 k0 f0 hby
       simp only [beq_iff_eq, beq_eq_false_iff_ne, bne_iff_ne, bne_eq_false_iff_eq] at *
       subst_vars
       unfold twoS wS
       rw [HWD.out, HWS.out]
       repeat (first | rw [if_pos (by omega)] | rw [if_neg (by omega)])
       all_goals rfl)
    | (refine bodyPost_ret (res1 rfl _ _ _ w.heap.size _ rfl (load137 (c0 := .slice none 0 0) (c1 := .int .i64 0) (Blk.new w _ 137))) rfl (RHead.mk (l := []) (n := 0) (t := 0) ?_ rfl (Byts.nil _) ((Ext.refl _).alloc _))
       simp only [beq_iff_eq, beq_eq_false_iff_ne, bne_iff_ne, bne_eq_false_iff_eq] at *
       subst_vars
       unfold twoS wS
       rw [HWD.out, HWS.out]
       repeat (first | rw [if_pos (by omega)] | rw [if_neg (by omega)])
       all_goals rfl)
theorem two_F_8_0 (op d s : Int) (w : World) (o1 : 0 ≤ op ∧ op ≤ 255 ∧ (op < 1 ∨ 9 < op) ∧ op ≠ 17 ∧ op ≠ 30 ∧ op ≠ 31) (hwd : wideS d = 8) (hws : wideS s = 0) (d1 : 1 ≤ d) (d2 : d ≤ 8) (s1 : s < 1 ∨ 16 < s) : Calls Tryz.prog 157 #[.int .i64 op, .int .i64 d, .int .i64 s] w (RHead w (twoS op d s)) := by
  have hnd := numS_range d
  have hns := numS_range s
  have MM := Lib.hid (M2.of op d s)
  unfold M2 at MM
  have HWD := Lib.hid hwd; have HWS := Lib.hid hws
  clear hwd hws
  have e9 : (d == 9) = false := by simp; omega
  have e17 : (d == 17) = false := by simp; omega
  have e18 : (d == 18) = false := by simp; omega
  have e19 : (d == 19) = false := by simp; omega
  have e20 : (d == 20) = false := by simp; omega
  have g1 : (s == 1) = false := by simp; omega
  have g9 : (s == 9) = false := by simp; omega
  have ne9 : (d != 9) = true := by simp; omega
  have ng9 : (s != 9) = true := by simp; omega
  have p1 : (op == 1) = false := by simp; omega
  have p17 : (op == 17) = false := by simp; omega
  have p30 : (op == 30) = false := by simp; omega
  have p31 : (op == 31) = false := by simp; omega
  go_enter Tryz.func157, Tryz.ntmps157
  go_wp2_with (first
    | (go_at_call 191; ((with_reducible refine (wide_any _ _).mono ?_); (first | rw [HWD.out] | rw [HWS.out] | rw [show wideS 1 = 8 from rfl] | rw [show wideS 9 = 16 from rfl] | rw [show wideS 17 = 0 from rfl] | rw [show wideS 18 = 0 from rfl] | rw [show wideS 19 = 0 from rfl] | rw [show wideS 20 = 0 from rfl]); rintro e w' ⟨rfl, rfl⟩))
    | (go_at_call 193; ((with_reducible refine (num_any _ (by omega) (by omega) _).mono ?_); rintro e w' ⟨rfl, rfl⟩))
    | (go_at_call 195; ((with_reducible refine (mem_any _ _ (by omega) (by omega) _).mono ?_); rintro e w' ⟨rfl, rfl⟩))
    | (go_at_call 192; ((with_reducible refine (rm_any _ _ (by omega) (by omega) _).mono ?_); rintro e w' ⟨rfl, rfl⟩))
    | (go_at_call 194; ((with_reducible refine (places_any _ _ _).mono ?_); rintro e w1 ⟨A, c, rfl, hby, hx1⟩; have B0 := (Blk.new w #[.slice none 0 0, .int .i64 0] 137).ext hx1; have k0 := B0.cell; have f0 := B0.frozen))
    | (go_at_call 159; ((with_reducible refine (of159_any _ _ _ _ _).mono ?_); rintro e w1 ⟨rfl, hx1⟩; have B0 := ((Blk.new w #[.slice none 0 0, .int .i64 0] 137).alloc _).ext hx1; have k0 := B0.cell; have f0 := B0.frozen)))
  all_goals first
    | (refine bodyPost_ret (res1 rfl _ _ _ w.heap.size _ rfl (load137 ((B0.put 0 _).put 1 _))) rfl (head_end2 (w.alloc (.cells #[.slice none 0 0, .int .i64 0] 137)) _ _ ?_ ?_ ?_ ((Ext.refl w).alloc _) (by simp) (by simp) hx1) <;> clear hx1 B0 k0 f0
       · simp only [beq_iff_eq, beq_eq_false_iff_ne, bne_iff_ne, bne_eq_false_iff_eq] at *
         subst_vars
         unfold twoS wS
         rw [HWD.out, HWS.out]
         repeat (first | rw [if_pos (by omega)] | rw [if_neg (by omega)])
         all_goals rfl
       · have M := MM.out
         subst_vars
         first | omega | decide
       · have M := MM.out
         subst_vars
         first | omega | decide)
    | (refine bodyPost_ret (res1 rfl _ _ _ w.heap.size _ rfl (load137 ((B0.put 0 _).put 1 _))) rfl (head_end1 (w.alloc (.cells #[.slice none 0 0, .int .i64 0] 137)) _ _ ?_ ?_ ((Ext.refl w).alloc _) (by simp) (by simp) hx1) <;> clear hx1 B0 k0 f0
       · simp only [beq_iff_eq, beq_eq_false_iff_ne, bne_iff_ne, bne_eq_false_iff_eq] at *
         subst_vars
         unfold twoS wS
         rw [HWD.out, HWS.out]
         repeat (first | rw [if_pos (by omega)] | rw [if_neg (by omega)])
         all_goals rfl
       · have M := MM.out
         subst_vars
         omega)
    | (refine bodyPost_ret (res1 rfl _ _ _ w.heap.size _ rfl (load137 ((B0.put 0 _).put 1 _))) rfl (RHead.pass ?_ B0 hby (((Ext.refl w).alloc _).trans hx1)) <;> clear hx1 B0 k0 f0 hby
       simp only [beq_iff_eq, beq_eq_false_iff_ne, bne_iff_ne, bne_eq_false_iff_eq] at *
       subst_vars
       unfold twoS wS
       rw [HWD.out, HWS.out]
       repeat (first | rw [if_pos (by omega)] | rw [if_neg (by omega)])
       all_goals rfl)
    | (refine bodyPost_ret (res1 rfl _ _ _ w.heap.size _ rfl (load137 (c0 := .slice none 0 0) (c1 := .int .i64 0) (Blk.new w _ 137))) rfl (RHead.mk (l := []) (n := 0) (t := 0) ?_ rfl (Byts.nil _) ((Ext.refl _).alloc _))
       simp only [beq_iff_eq, beq_eq_false_iff_ne, bne_iff_ne, bne_eq_false_iff_eq] at *
       subst_vars
       unfold twoS wS
       rw [HWD.out, HWS.out]
       repeat (first | rw [if_pos (by omega)] | rw [if_neg (by omega)])
       all_goals rfl)
theorem two_F_16_8 (op d s : Int) (w : World) (o1 : 0 ≤ op ∧ op ≤ 255 ∧ (op < 1 ∨ 9 < op) ∧ op ≠ 17 ∧ op ≠ 30 ∧ op ≠ 31) (hwd : wideS d = 16) (hws : wideS s = 8) (d1 : 9 ≤ d) (d2 : d ≤ 16) (s1 : 1 ≤ s) (s2 : s ≤ 8) : Calls Tryz.prog 157 #[.int .i64 op, .int .i64 d, .int .i64 s] w (RHead w (twoS op d s)) := by
  have hnd := numS_range d
  have hns := numS_range s
  have MM := Lib.hid (M2.of op d s)
  unfold M2 at MM
  have HWD := Lib.hid hwd; have HWS := Lib.hid hws
  clear hwd hws
  have e1 : (d == 1) = false := by simp; omega
  have e17 : (d == 17) = false := by simp; omega
  have e18 : (d == 18) = false := by simp; omega
  have e19 : (d == 19) = false := by simp; omega
  have e20 : (d == 20) = false := by simp; omega
  have g9 : (s == 9) = false := by simp; omega
  have g17 : (s == 17) = false := by simp; omega
  have g18 : (s == 18) = false := by simp; omega
  have g19 : (s == 19) = false := by simp; omega
  have g20 : (s == 20) = false := by simp; omega
  have ng9 : (s != 9) = true := by simp; omega
  have p1 : (op == 1) = false := by simp; omega
  have p17 : (op == 17) = false := by simp; omega
  have p30 : (op == 30) = false := by simp; omega
  have p31 : (op == 31) = false := by simp; omega
  go_enter Tryz.func157, Tryz.ntmps157
  go_wp2_with (first
    | (go_at_call 191; ((with_reducible refine (wide_any _ _).mono ?_); (first | rw [HWD.out] | rw [HWS.out] | rw [show wideS 1 = 8 from rfl] | rw [show wideS 9 = 16 from rfl] | rw [show wideS 17 = 0 from rfl] | rw [show wideS 18 = 0 from rfl] | rw [show wideS 19 = 0 from rfl] | rw [show wideS 20 = 0 from rfl]); rintro e w' ⟨rfl, rfl⟩))
    | (go_at_call 193; ((with_reducible refine (num_any _ (by omega) (by omega) _).mono ?_); rintro e w' ⟨rfl, rfl⟩))
    | (go_at_call 195; ((with_reducible refine (mem_any _ _ (by omega) (by omega) _).mono ?_); rintro e w' ⟨rfl, rfl⟩))
    | (go_at_call 192; ((with_reducible refine (rm_any _ _ (by omega) (by omega) _).mono ?_); rintro e w' ⟨rfl, rfl⟩))
    | (go_at_call 194; ((with_reducible refine (places_any _ _ _).mono ?_); rintro e w1 ⟨A, c, rfl, hby, hx1⟩; have B0 := (Blk.new w #[.slice none 0 0, .int .i64 0] 137).ext hx1; have k0 := B0.cell; have f0 := B0.frozen))
    | (go_at_call 159; ((with_reducible refine (of159_any _ _ _ _ _).mono ?_); rintro e w1 ⟨rfl, hx1⟩; have B0 := ((Blk.new w #[.slice none 0 0, .int .i64 0] 137).alloc _).ext hx1; have k0 := B0.cell; have f0 := B0.frozen)))
  all_goals first
    | (refine bodyPost_ret (res1 rfl _ _ _ w.heap.size _ rfl (load137 ((B0.put 0 _).put 1 _))) rfl (head_end2 (w.alloc (.cells #[.slice none 0 0, .int .i64 0] 137)) _ _ ?_ ?_ ?_ ((Ext.refl w).alloc _) (by simp) (by simp) hx1) <;> clear hx1 B0 k0 f0
       · simp only [beq_iff_eq, beq_eq_false_iff_ne, bne_iff_ne, bne_eq_false_iff_eq] at *
         subst_vars
         unfold twoS wS
         rw [HWD.out, HWS.out]
         repeat (first | rw [if_pos (by omega)] | rw [if_neg (by omega)])
         all_goals rfl
       · have M := MM.out
         subst_vars
         first | omega | decide
       · have M := MM.out
         subst_vars
         first | omega | decide)
    | (refine bodyPost_ret (res1 rfl _ _ _ w.heap.size _ rfl (load137 ((B0.put 0 _).put 1 _))) rfl (head_end1 (w.alloc (.cells #[.slice none 0 0, .int .i64 0] 137)) _ _ ?_ ?_ ((Ext.refl w).alloc _) (by simp) (by simp) hx1) <;> clear hx1 B0 k0 f0
       · simp only [beq_iff_eq, beq_eq_false_iff_ne, bne_iff_ne, bne_eq_false_iff_eq] at *
         subst_vars
         unfold twoS wS
         rw [HWD.out, HWS.out]
         repeat (first | rw [if_pos (by omega)] | rw [if_neg (by omega)])
         all_goals rfl
       · have M := MM.out
         subst_vars
         omega)
    | (refine bodyPost_ret (res1 rfl _ _ _ w.heap.size _ rfl (load137 ((B0.put 0 _).put 1 _))) rfl (RHead.pass ?_ B0 hby (((Ext.refl w).alloc _).trans hx1)) <;> clear hx1 B0 k0 f0 hby
       simp only [beq_iff_eq, beq_eq_false_iff_ne, bne_iff_ne, bne_eq_false_iff_eq] at *
       subst_vars
       unfold twoS wS
       rw [HWD.out, HWS.out]
       repeat (first | rw [if_pos (by omega)] | rw [if_neg (by omega)])
       all_goals rfl)
    | (refine bodyPost_ret (res1 rfl _ _ _ w.heap.size _ rfl (load137 (c0 := .slice none 0 0) (c1 := .int .i64 0) (Blk.new w _ 137))) rfl (RHead.mk (l := []) (n := 0) (t := 0) ?_ rfl (Byts.nil _) ((Ext.refl _).alloc _))
       simp only [beq_iff_eq, beq_eq_false_iff_ne, bne_iff_ne, bne_eq_false_iff_eq] at *
       subst_vars
       unfold twoS wS
       rw [HWD.out, HWS.out]
       repeat (first | rw [if_pos (by omega)] | rw [if_neg (by omega)])
       all_goals rfl)
theorem two_F_16_16 (op d s : Int) (w : World) (o1 : 0 ≤ op ∧ op ≤ 255 ∧ (op < 1 ∨ 9 < op) ∧ op ≠ 17 ∧ op ≠ 30 ∧ op ≠ 31) (hwd : wideS d = 16) (hws : wideS s = 16) (d1 : 9 ≤ d) (d2 : d ≤ 16) (s1 : 9 ≤ s) (s2 : s ≤ 16) : Calls Tryz.prog 157 #[.int .i64 op, .int .i64 d, .int .i64 s] w (RHead w (twoS op d s)) := by
  have hnd := numS_range d
  have hns := numS_range s
  have MM := Lib.hid (M2.of op d s)
  unfold M2 at MM
  have HWD := Lib.hid hwd; have HWS := Lib.hid hws
  clear hwd hws
  have e1 : (d == 1) = false := by simp; omega
  have e17 : (d == 17) = false := by simp; omega
  have e18 : (d == 18) = false := by simp; omega
  have e19 : (d == 19) = false := by simp; omega
  have e20 : (d == 20) = false := by simp; omega
  have g1 : (s == 1) = false := by simp; omega
  have g17 : (s == 17) = false := by simp; omega
  have g18 : (s == 18) = false := by simp; omega
  have g19 : (s == 19) = false := by simp; omega
  have g20 : (s == 20) = false := by simp; omega
  have p1 : (op == 1) = false := by simp; omega
  have p17 : (op == 17) = false := by simp; omega
  have p30 : (op == 30) = false := by simp; omega
  have p31 : (op == 31) = false := by simp; omega
  go_enter Tryz.func157, Tryz.ntmps157
  go_wp2_with (first
    | (go_at_call 191; ((with_reducible refine (wide_any _ _).mono ?_); (first | rw [HWD.out] | rw [HWS.out] | rw [show wideS 1 = 8 from rfl] | rw [show wideS 9 = 16 from rfl] | rw [show wideS 17 = 0 from rfl] | rw [show wideS 18 = 0 from rfl] | rw [show wideS 19 = 0 from rfl] | rw [show wideS 20 = 0 from rfl]); rintro e w' ⟨rfl, rfl⟩))
    | (go_at_call 193; ((with_reducible refine (num_any _ (by omega) (by omega) _).mono ?_); rintro e w' ⟨rfl, rfl⟩))
    | (go_at_call 195; ((with_reducible refine (mem_any _ _ (by omega) (by omega) _).mono ?_); rintro e w' ⟨rfl, rfl⟩))
    | (go_at_call 192; ((with_reducible refine (rm_any _ _ (by omega) (by omega) _).mono ?_); rintro e w' ⟨rfl, rfl⟩))
    | (go_at_call 194; ((with_reducible refine (places_any _ _ _).mono ?_); rintro e w1 ⟨A, c, rfl, hby, hx1⟩; have B0 := (Blk.new w #[.slice none 0 0, .int .i64 0] 137).ext hx1; have k0 := B0.cell; have f0 := B0.frozen))
    | (go_at_call 159; ((with_reducible refine (of159_any _ _ _ _ _).mono ?_); rintro e w1 ⟨rfl, hx1⟩; have B0 := ((Blk.new w #[.slice none 0 0, .int .i64 0] 137).alloc _).ext hx1; have k0 := B0.cell; have f0 := B0.frozen)))
  all_goals first
    | (refine bodyPost_ret (res1 rfl _ _ _ w.heap.size _ rfl (load137 ((B0.put 0 _).put 1 _))) rfl (head_end2 (w.alloc (.cells #[.slice none 0 0, .int .i64 0] 137)) _ _ ?_ ?_ ?_ ((Ext.refl w).alloc _) (by simp) (by simp) hx1) <;> clear hx1 B0 k0 f0
       · simp only [beq_iff_eq, beq_eq_false_iff_ne, bne_iff_ne, bne_eq_false_iff_eq] at *
         subst_vars
         unfold twoS wS
         rw [HWD.out, HWS.out]
         repeat (first | rw [if_pos (by omega)] | rw [if_neg (by omega)])
         all_goals rfl
       · have M := MM.out
         subst_vars
         first | omega | decide
       · have M := MM.out
         subst_vars
         first | omega | decide)
    | (refine bodyPost_ret (res1 rfl _ _ _ w.heap.size _ rfl (load137 ((B0.put 0 _).put 1 _))) rfl (head_end1 (w.alloc (.cells #[.slice none 0 0, .int .i64 0] 137)) _ _ ?_ ?_ ((Ext.refl w).alloc _) (by simp) (by simp) hx1) <;> clear hx1 B0 k0 f0
       · simp only [beq_iff_eq, beq_eq_false_iff_ne, bne_iff_ne, bne_eq_false_iff_eq] at *
         subst_vars
         unfold twoS wS
         rw [HWD.out, HWS.out]
         repeat (first | rw [if_pos (by omega)] | rw [if_neg (by omega)])
         all_goals rfl
       · have M := MM.out
         subst_vars
         omega)
    | (refine bodyPost_ret (res1 rfl _ _ _ w.heap.size _ rfl (load137 ((B0.put 0 _).put 1 _))) rfl (RHead.pass ?_ B0 hby (((Ext.refl w).alloc _).trans hx1)) <;> clear hx1 B0 k0 f0 hby
       simp only [beq_iff_eq, beq_eq_false_iff_ne, bne_iff_ne, bne_eq_false_iff_eq] at *
       subst_vars
       unfold twoS wS
       rw [HWD.out, HWS.out]
       repeat (first | rw [if_pos (by omega)] | rw [if_neg (by omega)])
       all_goals rfl)
    | (refine bodyPost_ret (res1 rfl _ _ _ w.heap.size _ rfl (load137 (c0 := .slice none 0 0) (c1 := .int .i64 0) (Blk.new w _ 137))) rfl (RHead.mk (l := []) (n := 0) (t := 0) ?_ rfl (Byts.nil _) ((Ext.refl _).alloc _))
       simp only [beq_iff_eq, beq_eq_false_iff_ne, bne_iff_ne, bne_eq_false_iff_eq] at *
       subst_vars
       unfold twoS wS
       rw [HWD.out, HWS.out]
       repeat (first | rw [if_pos (by omega)] | rw [if_neg (by omega)])
       all_goals rfl)
theorem two_F_16_0 (op d s : Int) (w : World) (o1 : 0 ≤ op ∧ op ≤ 255 ∧ (op < 1 ∨ 9 < op) ∧ op ≠ 17 ∧ op ≠ 30 ∧ op ≠ 31) (hwd : wideS d = 16) (hws : wideS s = 0) (d1 : 9 ≤ d) (d2 : d ≤ 16) (s1 : s < 1 ∨ 16 < s) : Calls Tryz.prog 157 #[.int .i64 op, .int .i64 d, .int .i64 s] w (RHead w (twoS op d s)) := by
  have hnd := numS_range d
  have hns := numS_range s
  have MM := Lib.hid (M2.of op d s)
  unfold M2 at MM
  have HWD := Lib.hid hwd; have HWS := Lib.hid hws
  clear hwd hws
  have e1 : (d == 1) = false := by simp; omega
  have e17 : (d == 17) = false := by simp; omega
  have e18 : (d == 18) = false := by simp; omega
  have e19 : (d == 19) = false := by simp; omega
  have e20 : (d == 20) = false := by simp; omega
  have g1 : (s == 1) = false := by simp; omega
  have g9 : (s == 9) = false := by simp; omega
  have ng9 : (s != 9) = true := by simp; omega
  have p1 : (op == 1) = false := by simp; omega
  have p17 : (op == 17) = false := by simp; omega
  have p30 : (op == 30) = false := by simp; omega
  have p31 : (op == 31) = false := by simp; omega
  go_enter Tryz.func157, Tryz.ntmps157
  go_wp2_with (first
    | (go_at_call 191; ((with_reducible refine (wide_any _ _).mono ?_); (first | rw [HWD.out] | rw [HWS.out] | rw [show wideS 1 = 8 from rfl] | rw [show wideS 9 = 16 from rfl] | rw [show wideS 17 = 0 from rfl] | rw [show wideS 18 = 0 from rfl] | rw [show wideS 19 = 0 from rfl] | rw [show wideS 20 = 0 from rfl]); rintro e w' ⟨rfl, rfl⟩))
    | (go_at_call 193; ((with_reducible refine (num_any _ (by omega) (by omega) _).mono ?_); rintro e w' ⟨rfl, rfl⟩))
    | (go_at_call 195; ((with_reducible refine (mem_any _ _ (by omega) (by omega) _).mono ?_); rintro e w' ⟨rfl, rfl⟩))
    | (go_at_call 192; ((with_reducible refine (rm_any _ _ (by omega) (by omega) _).mono ?_); rintro e w' ⟨rfl, rfl⟩))
    | (go_at_call 194; ((with_reducible refine (places_any _ _ _).mono ?_); rintro e w1 ⟨A, c, rfl, hby, hx1⟩; have B0 := (Blk.new w #[.slice none 0 0, .int .i64 0] 137).ext hx1; have k0 := B0.cell; have f0 := B0.frozen))
    | (go_at_call 159; ((with_reducible refine (of159_any _ _ _ _ _).mono ?_); rintro e w1 ⟨rfl, hx1⟩; have B0 := ((Blk.new w #[.slice none 0 0, .int .i64 0] 137).alloc _).ext hx1; have k0 := B0.cell; have f0 := B0.frozen)))
  all_goals first
    | (refine bodyPost_ret (res1 rfl _ _ _ w.heap.size _ rfl (load137 ((B0.put 0 _).put 1 _))) rfl (head_end2 (w.alloc (.cells #[.slice none 0 0, .int .i64 0] 137)) _ _ ?_ ?_ ?_ ((Ext.refl w).alloc _) (by simp) (by simp) hx1) <;> clear hx1 B0 k0 f0
       · simp only [beq_iff_eq, beq_eq_false_iff_ne, bne_iff_ne, bne_eq_false_iff_eq] at *
         subst_vars
         unfold twoS wS
         rw [HWD.out, HWS.out]
         repeat (first | rw [if_pos (by omega)] | rw [if_neg (by omega)])
         all_goals rfl
       · have M := MM.out
         subst_vars
         first | omega | decide
       · have M := MM.out
         subst_vars
         first | omega | decide)
    | (refine bodyPost_ret (res1 rfl _ _ _ w.heap.size _ rfl (load137 ((B0.put 0 _).put 1 _))) rfl (head_end1 (w.alloc (.cells #[.slice none 0 0, .int .i64 0] 137)) _ _ ?_ ?_ ((Ext.refl w).alloc _) (by simp) (by simp) hx1) <;> clear hx1 B0 k0 f0
       · simp only [beq_iff_eq, beq_eq_false_iff_ne, bne_iff_ne, bne_eq_false_iff_eq] at *
         subst_vars
         unfold twoS wS
         rw [HWD.out, HWS.out]
         repeat (first | rw [if_pos (by omega)] | rw [if_neg (by omega)])
         all_goals rfl
       · have M := MM.out
         subst_vars
         omega)
    | (refine bodyPost_ret (res1 rfl _ _ _ w.heap.size _ rfl (load137 ((B0.put 0 _).put 1 _))) rfl (RHead.pass ?_ B0 hby (((Ext.refl w).alloc _).trans hx1)) <;> clear hx1 B0 k0 f0 hby
       simp only [beq_iff_eq, beq_eq_false_iff_ne, bne_iff_ne, bne_eq_false_iff_eq] at *
       subst_vars
       unfold twoS wS
       rw [HWD.out, HWS.out]
       repeat (first | rw [if_pos (by omega)] | rw [if_neg (by omega)])
       all_goals rfl)
    | (refine bodyPost_ret (res1 rfl _ _ _ w.heap.size _ rfl (load137 (c0 := .slice none 0 0) (c1 := .int .i64 0) (Blk.new w _ 137))) rfl (RHead.mk (l := []) (n := 0) (t := 0) ?_ rfl (Byts.nil _) ((Ext.refl _).alloc _))
       simp only [beq_iff_eq, beq_eq_false_iff_ne, bne_iff_ne, bne_eq_false_iff_eq] at *
       subst_vars
       unfold twoS wS
       rw [HWD.out, HWS.out]
       repeat (first | rw [if_pos (by omega)] | rw [if_neg (by omega)])
       all_goals rfl)
theorem two_F_0_8 (op d s : Int) (w : World) (o1 : 0 ≤ op ∧ op ≤ 255 ∧ (op < 1 ∨ 9 < op) ∧ op ≠ 17 ∧ op ≠ 30 ∧ op ≠ 31) (hwd : wideS d = 0) (hws : wideS s = 8) (d1 : d < 1 ∨ 16 < d) (s1 : 1 ≤ s) (s2 : s ≤ 8) : Calls Tryz.prog 157 #[.int .i64 op, .int .i64 d, .int .i64 s] w (RHead w (twoS op d s)) := by
  have hnd := numS_range d
  have hns := numS_range s
  have MM := Lib.hid (M2.of op d s)
  unfold M2 at MM
  have HWD := Lib.hid hwd; have HWS := Lib.hid hws
  clear hwd hws
  have e1 : (d == 1) = false := by simp; omega
  have e9 : (d == 9) = false := by simp; omega
  have g9 : (s == 9) = false := by simp; omega
  have g17 : (s == 17) = false := by simp; omega
  have g18 : (s == 18) = false := by simp; omega
  have g19 : (s == 19) = false := by simp; omega
  have g20 : (s == 20) = false := by simp; omega
  have ne9 : (d != 9) = true := by simp; omega
  have ng9 : (s != 9) = true := by simp; omega
  have p1 : (op == 1) = false := by simp; omega
  have p17 : (op == 17) = false := by simp; omega
  have p30 : (op == 30) = false := by simp; omega
  have p31 : (op == 31) = false := by simp; omega
  go_enter Tryz.func157, Tryz.ntmps157
  go_wp2_with (first
    | (go_at_call 191; ((with_reducible refine (wide_any _ _).mono ?_); (first | rw [HWD.out] | rw [HWS.out] | rw [show wideS 1 = 8 from rfl] | rw [show wideS 9 = 16 from rfl] | rw [show wideS 17 = 0 from rfl] | rw [show wideS 18 = 0 from rfl] | rw [show wideS 19 = 0 from rfl] | rw [show wideS 20 = 0 from rfl]); rintro e w' ⟨rfl, rfl⟩))
    | (go_at_call 193; ((with_reducible refine (num_any _ (by omega) (by omega) _).mono ?_); rintro e w' ⟨rfl, rfl⟩))
    | (go_at_call 195; ((with_reducible refine (mem_any _ _ (by omega) (by omega) _).mono ?_); rintro e w' ⟨rfl, rfl⟩))
    | (go_at_call 192; ((with_reducible refine (rm_any _ _ (by omega) (by omega) _).mono ?_); rintro e w' ⟨rfl, rfl⟩))
    | (go_at_call 194; ((with_reducible refine (places_any _ _ _).mono ?_); rintro e w1 ⟨A, c, rfl, hby, hx1⟩; have B0 := (Blk.new w #[.slice none 0 0, .int .i64 0] 137).ext hx1; have k0 := B0.cell; have f0 := B0.frozen))
    | (go_at_call 159; ((with_reducible refine (of159_any _ _ _ _ _).mono ?_); rintro e w1 ⟨rfl, hx1⟩; have B0 := ((Blk.new w #[.slice none 0 0, .int .i64 0] 137).alloc _).ext hx1; have k0 := B0.cell; have f0 := B0.frozen)))
  all_goals first
    | (refine bodyPost_ret (res1 rfl _ _ _ w.heap.size _ rfl (load137 ((B0.put 0 _).put 1 _))) rfl (head_end2 (w.alloc (.cells #[.slice none 0 0, .int .i64 0] 137)) _ _ ?_ ?_ ?_ ((Ext.refl w).alloc _) (by simp) (by simp) hx1) <;> clear hx1 B0 k0 f0
       · simp only [beq_iff_eq, beq_eq_false_iff_ne, bne_iff_ne, bne_eq_false_iff_eq] at *
         subst_vars
         unfold twoS wS
         rw [HWD.out, HWS.out]
         repeat (first | rw [if_pos (by omega)] | rw [if_neg (by omega)])
         all_goals rfl
       · have M := MM.out
         subst_vars
         first | omega | decide
       · have M := MM.out
         subst_vars
         first | omega | decide)
    | (refine bodyPost_ret (res1 rfl _ _ _ w.heap.size _ rfl (load137 ((B0.put 0 _).put 1 _))) rfl (head_end1 (w.alloc (.cells #[.slice none 0 0, .int .i64 0] 137)) _ _ ?_ ?_ ((Ext.refl w).alloc _) (by simp) (by simp) hx1) <;> clear hx1 B0 k0 f0
       · simp only [beq_iff_eq, beq_eq_false_iff_ne, bne_iff_ne, bne_eq_false_iff_eq] at *
         subst_vars
         unfold twoS wS
         rw [HWD.out, HWS.out]
         repeat (first | rw [if_pos (by omega)] | rw [if_neg (by omega)])
         all_goals rfl
       · have M := MM.out
         subst_vars
         omega)
    | (refine bodyPost_ret (res1 rfl _ _ _ w.heap.size _ rfl (load137 ((B0.put 0 _).put 1 _))) rfl (RHead.pass ?_ B0 hby (((Ext.refl w).alloc _).trans hx1)) <;> clear hx1 B0 k0 f0 hby
       simp only [beq_iff_eq, beq_eq_false_iff_ne, bne_iff_ne, bne_eq_false_iff_eq] at *
       subst_vars
       unfold twoS wS
       rw [HWD.out, HWS.out]
       repeat (first | rw [if_pos (by omega)] | rw [if_neg (by omega)])
       all_goals rfl)
    | (refine bodyPost_ret (res1 rfl _ _ _ w.heap.size _ rfl (load137 (c0 := .slice none 0 0) (c1 := .int .i64 0) (Blk.new w _ 137))) rfl (RHead.mk (l := []) (n := 0) (t := 0) ?_ rfl (Byts.nil _) ((Ext.refl _).alloc _))
       simp only [beq_iff_eq, beq_eq_false_iff_ne, bne_iff_ne, bne_eq_false_iff_eq] at *
       subst_vars
       unfold twoS wS
       rw [HWD.out, HWS.out]
       repeat (first | rw [if_pos (by omega)] | rw [if_neg (by omega)])
       all_goals rfl)
theorem two_F_0_16 (op d s : Int) (w : World) (o1 : 0 ≤ op ∧ op ≤ 255 ∧ (op < 1 ∨ 9 < op) ∧ op ≠ 17 ∧ op ≠ 30 ∧ op ≠ 31) (hwd : wideS d = 0) (hws : wideS s = 16) (d1 : d < 1 ∨ 16 < d) (s1 : 9 ≤ s) (s2 : s ≤ 16) : Calls Tryz.prog 157 #[.int .i64 op, .int .i64 d, .int .i64 s] w (RHead w (twoS op d s)) := by
  have hnd := numS_range d
  have hns := numS_range s
  have MM := Lib.hid (M2.of op d s)
  unfold M2 at MM
  have HWD := Lib.hid hwd; have HWS := Lib.hid hws
  clear hwd hws
  have e1 : (d == 1) = false := by simp; omega
  have e9 : (d == 9) = false := by simp; omega
  have g1 : (s == 1) = false := by simp; omega
  have g17 : (s == 17) = false := by simp; omega
  have g18 : (s == 18) = false := by simp; omega
  have g19 : (s == 19) = false := by simp; omega
  have g20 : (s == 20) = false := by simp; omega
  have ne9 : (d != 9) = true := by simp; omega
  have p1 : (op == 1) = false := by simp; omega
  have p17 : (op == 17) = false := by simp; omega
  have p30 : (op == 30) = false := by simp; omega
  have p31 : (op == 31) = false := by simp; omega
  go_enter Tryz.func157, Tryz.ntmps157
  go_wp2_with (first
    | (go_at_call 191; ((with_reducible refine (wide_any _ _).mono ?_); (first | rw [HWD.out] | rw [HWS.out] | rw [show wideS 1 = 8 from rfl] | rw [show wideS 9 = 16 from rfl] | rw [show wideS 17 = 0 from rfl] | rw [show wideS 18 = 0 from rfl] | rw [show wideS 19 = 0 from rfl] | rw [show wideS 20 = 0 from rfl]); rintro e w' ⟨rfl, rfl⟩))
    | (go_at_call 193; ((with_reducible refine (num_any _ (by omega) (by omega) _).mono ?_); rintro e w' ⟨rfl, rfl⟩))
    | (go_at_call 195; ((with_reducible refine (mem_any _ _ (by omega) (by omega) _).mono ?_); rintro e w' ⟨rfl, rfl⟩))
    | (go_at_call 192; ((with_reducible refine (rm_any _ _ (by omega) (by omega) _).mono ?_); rintro e w' ⟨rfl, rfl⟩))
    | (go_at_call 194; ((with_reducible refine (places_any _ _ _).mono ?_); rintro e w1 ⟨A, c, rfl, hby, hx1⟩; have B0 := (Blk.new w #[.slice none 0 0, .int .i64 0] 137).ext hx1; have k0 := B0.cell; have f0 := B0.frozen))
    | (go_at_call 159; ((with_reducible refine (of159_any _ _ _ _ _).mono ?_); rintro e w1 ⟨rfl, hx1⟩; have B0 := ((Blk.new w #[.slice none 0 0, .int .i64 0] 137).alloc _).ext hx1; have k0 := B0.cell; have f0 := B0.frozen)))
  all_goals first
    | (refine bodyPost_ret (res1 rfl _ _ _ w.heap.size _ rfl (load137 ((B0.put 0 _).put 1 _))) rfl (head_end2 (w.alloc (.cells #[.slice none 0 0, .int .i64 0] 137)) _ _ ?_ ?_ ?_ ((Ext.refl w).alloc _) (by simp) (by simp) hx1) <;> clear hx1 B0 k0 f0
       · simp only [beq_iff_eq, beq_eq_false_iff_ne, bne_iff_ne, bne_eq_false_iff_eq] at *
         subst_vars
         unfold twoS wS
         rw [HWD.out, HWS.out]
         repeat (first | rw [if_pos (by omega)] | rw [if_neg (by omega)])
         all_goals rfl
       · have M := MM.out
         subst_vars
         first | omega | decide
       · have M := MM.out
         subst_vars
         first | omega | decide)
    | (refine bodyPost_ret (res1 rfl _ _ _ w.heap.size _ rfl (load137 ((B0.put 0 _).put 1 _))) rfl (head_end1 (w.alloc (.cells #[.slice none 0 0, .int .i64 0] 137)) _ _ ?_ ?_ ((Ext.refl w).alloc _) (by simp) (by simp) hx1) <;> clear hx1 B0 k0 f0
       · simp only [beq_iff_eq, beq_eq_false_iff_ne, bne_iff_ne, bne_eq_false_iff_eq] at *
         subst_vars
         unfold twoS wS
         rw [HWD.out, HWS.out]
         repeat (first | rw [if_pos (by omega)] | rw [if_neg (by omega)])
         all_goals rfl
       · have M := MM.out
         subst_vars
         omega)
    | (refine bodyPost_ret (res1 rfl _ _ _ w.heap.size _ rfl (load137 ((B0.put 0 _).put 1 _))) rfl (RHead.pass ?_ B0 hby (((Ext.refl w).alloc _).trans hx1)) <;> clear hx1 B0 k0 f0 hby
       simp only [beq_iff_eq, beq_eq_false_iff_ne, bne_iff_ne, bne_eq_false_iff_eq] at *
       subst_vars
       unfold twoS wS
       rw [HWD.out, HWS.out]
       repeat (first | rw [if_pos (by omega)] | rw [if_neg (by omega)])
       all_goals rfl)
    | (refine bodyPost_ret (res1 rfl _ _ _ w.heap.size _ rfl (load137 (c0 := .slice none 0 0) (c1 := .int .i64 0) (Blk.new w _ 137))) rfl (RHead.mk (l := []) (n := 0) (t := 0) ?_ rfl (Byts.nil _) ((Ext.refl _).alloc _))
       simp only [beq_iff_eq, beq_eq_false_iff_ne, bne_iff_ne, bne_eq_false_iff_eq] at *
       subst_vars
       unfold twoS wS
       rw [HWD.out, HWS.out]
       repeat (first | rw [if_pos (by omega)] | rw [if_neg (by omega)])
       all_goals rfl)
theorem two_F_0_0 (op d s : Int) (w : World) (o1 : 0 ≤ op ∧ op ≤ 255 ∧ (op < 1 ∨ 9 < op) ∧ op ≠ 17 ∧ op ≠ 30 ∧ op ≠ 31) (hwd : wideS d = 0) (hws : wideS s = 0) (d1 : d < 1 ∨ 16 < d) (s1 : s < 1 ∨ 16 < s) : Calls Tryz.prog 157 #[.int .i64 op, .int .i64 d, .int .i64 s] w (RHead w (twoS op d s)) := by
  have hnd := numS_range d
  have hns := numS_range s
  have MM := Lib.hid (M2.of op d s)
  unfold M2 at MM
  have HWD := Lib.hid hwd; have HWS := Lib.hid hws
  clear hwd hws
  have e1 : (d == 1) = false := by simp; omega
  have e9 : (d == 9) = false := by simp; omega
  have g1 : (s == 1) = false := by simp; omega
  have g9 : (s == 9) = false := by simp; omega
  have ne9 : (d != 9) = true := by simp; omega
  have ng9 : (s != 9) = true := by simp; omega
  have p1 : (op == 1) = false := by simp; omega
  have p17 : (op == 17) = false := by simp; omega
  have p30 : (op == 30) = false := by simp; omega
  have p31 : (op == 31) = false := by simp; omega
  go_enter Tryz.func157, Tryz.ntmps157
  go_wp2_with (first
    | (go_at_call 191; ((with_reducible refine (wide_any _ _).mono ?_); (first | rw [HWD.out] | rw [HWS.out] | rw [show wideS 1 = 8 from rfl] | rw [show wideS 9 = 16 from rfl] | rw [show wideS 17 = 0 from rfl] | rw [show wideS 18 = 0 from rfl] | rw [show wideS 19 = 0 from rfl] | rw [show wideS 20 = 0 from rfl]); rintro e w' ⟨rfl, rfl⟩))
    | (go_at_call 193; ((with_reducible refine (num_any _ (by omega) (by omega) _).mono ?_); rintro e w' ⟨rfl, rfl⟩))
    | (go_at_call 195; ((with_reducible refine (mem_any _ _ (by omega) (by omega) _).mono ?_); rintro e w' ⟨rfl, rfl⟩))
    | (go_at_call 192; ((with_reducible refine (rm_any _ _ (by omega) (by omega) _).mono ?_); rintro e w' ⟨rfl, rfl⟩))
    | (go_at_call 194; ((with_reducible refine (places_any _ _ _).mono ?_); rintro e w1 ⟨A, c, rfl, hby, hx1⟩; have B0 := (Blk.new w #[.slice none 0 0, .int .i64 0] 137).ext hx1; have k0 := B0.cell; have f0 := B0.frozen))
    | (go_at_call 159; ((with_reducible refine (of159_any _ _ _ _ _).mono ?_); rintro e w1 ⟨rfl, hx1⟩; have B0 := ((Blk.new w #[.slice none 0 0, .int .i64 0] 137).alloc _).ext hx1; have k0 := B0.cell; have f0 := B0.frozen)))
  all_goals first
    | (refine bodyPost_ret (res1 rfl _ _ _ w.heap.size _ rfl (load137 ((B0.put 0 _).put 1 _))) rfl (head_end2 (w.alloc (.cells #[.slice none 0 0, .int .i64 0] 137)) _ _ ?_ ?_ ?_ ((Ext.refl w).alloc _) (by simp) (by simp) hx1) <;> clear hx1 B0 k0 f0
       · simp only [beq_iff_eq, beq_eq_false_iff_ne, bne_iff_ne, bne_eq_false_iff_eq] at *
         subst_vars
         unfold twoS wS
         rw [HWD.out, HWS.out]
         repeat (first | rw [if_pos (by omega)] | rw [if_neg (by omega)])
         all_goals rfl
       · have M := MM.out
         subst_vars
         first | omega | decide
       · have M := MM.out
         subst_vars
         first | omega | decide)
    | (refine bodyPost_ret (res1 rfl _ _ _ w.heap.size _ rfl (load137 ((B0.put 0 _).put 1 _))) rfl (head_end1 (w.alloc (.cells #[.slice none 0 0, .int .i64 0] 137)) _ _ ?_ ?_ ((Ext.refl w).alloc _) (by simp) (by simp) hx1) <;> clear hx1 B0 k0 f0
       · simp only [beq_iff_eq, beq_eq_false_iff_ne, bne_iff_ne, bne_eq_false_iff_eq] at *
         subst_vars
         unfold twoS wS
         rw [HWD.out, HWS.out]
         repeat (first | rw [if_pos (by omega)] | rw [if_neg (by omega)])
         all_goals rfl
       · have M := MM.out
         subst_vars
         omega)
    | (refine bodyPost_ret (res1 rfl _ _ _ w.heap.size _ rfl (load137 ((B0.put 0 _).put 1 _))) rfl (RHead.pass ?_ B0 hby (((Ext.refl w).alloc _).trans hx1)) <;> clear hx1 B0 k0 f0 hby
       simp only [beq_iff_eq, beq_eq_false_iff_ne, bne_iff_ne, bne_eq_false_iff_eq] at *
       subst_vars
       unfold twoS wS
       rw [HWD.out, HWS.out]
       repeat (first | rw [if_pos (by omega)] | rw [if_neg (by omega)])
       all_goals rfl)
    | (refine bodyPost_ret (res1 rfl _ _ _ w.heap.size _ rfl (load137 (c0 := .slice none 0 0) (c1 := .int .i64 0) (Blk.new w _ 137))) rfl (RHead.mk (l := []) (n := 0) (t := 0) ?_ rfl (Byts.nil _) ((Ext.refl _).alloc _))
       simp only [beq_iff_eq, beq_eq_false_iff_ne, bne_iff_ne, bne_eq_false_iff_eq] at *
       subst_vars
       unfold twoS wS
       rw [HWD.out, HWS.out]
       repeat (first | rw [if_pos (by omega)] | rw [if_neg (by omega)])
       all_goals rfl)
theorem two_any (op d s : Int) (h0 : 0 ≤ op) (h1 : op ≤ 255) (w : World) : Calls Tryz.prog 157 #[.int .i64 op, .int .i64 d, .int .i64 s] w (RHead w (twoS op d s)) := by
  by_cases hA : op = 1
  · rcases wideS_range d with ⟨hd, d1, d2⟩ | ⟨hd, d1, d2⟩ | ⟨hd, d1⟩ <;> rcases wideS_range s with ⟨hs, s1, s2⟩ | ⟨hs, s1, s2⟩ | ⟨hs, s1⟩
    · exact two_A_8_8 op d s w hA hd hs d1 d2 s1 s2
    · exact two_A_8_16 op d s w hA hd hs d1 d2 s1 s2
    · exact two_A_8_0 op d s w hA hd hs d1 d2 s1
    · exact two_A_16_8 op d s w hA hd hs d1 d2 s1 s2
    · exact two_A_16_16 op d s w hA hd hs d1 d2 s1 s2
    · exact two_A_16_0 op d s w hA hd hs d1 d2 s1
    · exact two_A_0_8 op d s w hA hd hs d1 s1 s2
    · exact two_A_0_16 op d s w hA hd hs d1 s1 s2
    · exact two_A_0_0 op d s w hA hd hs d1 s1
  by_cases hB : op = 17
  · rcases wideS_range d with ⟨hd, d1, d2⟩ | ⟨hd, d1, d2⟩ | ⟨hd, d1⟩ <;> rcases wideS_range s with ⟨hs, s1, s2⟩ | ⟨hs, s1, s2⟩ | ⟨hs, s1⟩
    · exact two_B_8_8 op d s w hB hd hs d1 d2 s1 s2
    · exact two_B_8_16 op d s w hB hd hs d1 d2 s1 s2
    · exact two_B_8_0 op d s w hB hd hs d1 d2 s1
    · exact two_B_16_8 op d s w hB hd hs d1 d2 s1 s2
    · exact two_B_16_16 op d s w hB hd hs d1 d2 s1 s2
    · exact two_B_16_0 op d s w hB hd hs d1 d2 s1
    · exact two_B_0_8 op d s w hB hd hs d1 s1 s2
    · exact two_B_0_16 op d s w hB hd hs d1 s1 s2
    · exact two_B_0_0 op d s w hB hd hs d1 s1
  by_cases hC : op = 30
  · rcases wideS_range d with ⟨hd, d1, d2⟩ | ⟨hd, d1, d2⟩ | ⟨hd, d1⟩ <;> rcases wideS_range s with ⟨hs, s1, s2⟩ | ⟨hs, s1, s2⟩ | ⟨hs, s1⟩
    · exact two_C_8_8 op d s w hC hd hs d1 d2 s1 s2
    · exact two_C_8_16 op d s w hC hd hs d1 d2 s1 s2
    · exact two_C_8_0 op d s w hC hd hs d1 d2 s1
    · exact two_C_16_8 op d s w hC hd hs d1 d2 s1 s2
    · exact two_C_16_16 op d s w hC hd hs d1 d2 s1 s2
    · exact two_C_16_0 op d s w hC hd hs d1 d2 s1
    · exact two_C_0_8 op d s w hC hd hs d1 s1 s2
    · exact two_C_0_16 op d s w hC hd hs d1 s1 s2
    · exact two_C_0_0 op d s w hC hd hs d1 s1
  by_cases hD : op = 31
  · rcases wideS_range d with ⟨hd, d1, d2⟩ | ⟨hd, d1, d2⟩ | ⟨hd, d1⟩ <;> rcases wideS_range s with ⟨hs, s1, s2⟩ | ⟨hs, s1, s2⟩ | ⟨hs, s1⟩
    · exact two_D_8_8 op d s w hD hd hs d1 d2 s1 s2
    · exact two_D_8_16 op d s w hD hd hs d1 d2 s1 s2
    · exact two_D_8_0 op d s w hD hd hs d1 d2 s1
    · exact two_D_16_8 op d s w hD hd hs d1 d2 s1 s2
    · exact two_D_16_16 op d s w hD hd hs d1 d2 s1 s2
    · exact two_D_16_0 op d s w hD hd hs d1 d2 s1
    · exact two_D_0_8 op d s w hD hd hs d1 s1 s2
    · exact two_D_0_16 op d s w hD hd hs d1 s1 s2
    · exact two_D_0_0 op d s w hD hd hs d1 s1
  by_cases hE : 2 ≤ op ∧ op ≤ 9
  · rcases wideS_range d with ⟨hd, d1, d2⟩ | ⟨hd, d1, d2⟩ | ⟨hd, d1⟩ <;> rcases wideS_range s with ⟨hs, s1, s2⟩ | ⟨hs, s1, s2⟩ | ⟨hs, s1⟩
    · exact two_E_8_8 op d s w hE.1 hE.2 hd hs d1 d2 s1 s2
    · exact two_E_8_16 op d s w hE.1 hE.2 hd hs d1 d2 s1 s2
    · exact two_E_8_0 op d s w hE.1 hE.2 hd hs d1 d2 s1
    · exact two_E_16_8 op d s w hE.1 hE.2 hd hs d1 d2 s1 s2
    · exact two_E_16_16 op d s w hE.1 hE.2 hd hs d1 d2 s1 s2
    · exact two_E_16_0 op d s w hE.1 hE.2 hd hs d1 d2 s1
    · exact two_E_0_8 op d s w hE.1 hE.2 hd hs d1 s1 s2
    · exact two_E_0_16 op d s w hE.1 hE.2 hd hs d1 s1 s2
    · exact two_E_0_0 op d s w hE.1 hE.2 hd hs d1 s1
  rcases wideS_range d with ⟨hd, d1, d2⟩ | ⟨hd, d1, d2⟩ | ⟨hd, d1⟩ <;> rcases wideS_range s with ⟨hs, s1, s2⟩ | ⟨hs, s1, s2⟩ | ⟨hs, s1⟩
  · exact two_F_8_8 op d s w (by omega) hd hs d1 d2 s1 s2
  · exact two_F_8_16 op d s w (by omega) hd hs d1 d2 s1 s2
  · exact two_F_8_0 op d s w (by omega) hd hs d1 d2 s1
  · exact two_F_16_8 op d s w (by omega) hd hs d1 d2 s1 s2
  · exact two_F_16_16 op d s w (by omega) hd hs d1 d2 s1 s2
  · exact two_F_16_0 op d s w (by omega) hd hs d1 d2 s1
  · exact two_F_0_8 op d s w (by omega) hd hs d1 s1 s2
  · exact two_F_0_16 op d s w (by omega) hd hs d1 s1 s2
  · exact two_F_0_0 op d s w (by omega) hd hs d1 s1
end Go.Proofs.YtnklmehphmidhaaGreatDoor
