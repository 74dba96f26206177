/- isa86: heads of two operands. -/
import Derived.Test.YtnklmehphmidhaaGreatDoorIzb
namespace Go.Proofs.YtnklmehphmidhaaGreatDoor
open Go.RowKit
set_option maxRecDepth 100000
set_option maxHeartbeats 4000000
set_option linter.unusedSimpArgs false
set_option linter.unusedVariables false

/-- A head: bytes, and a tail. -/
def RHead (w : World) (r : List Int × Int) : Ending → World → Prop := fun e w' => ∃ A c, e = .returned (.agg #[.slice A r.1.length c, .int .i64 r.2]) ∧ Byts w' (.slice A r.1.length c) r.1 ∧ Ext w w'

def placesS (d s : Int) : List Int × Int :=
  if wideS d = 8 ∧ s = 17 then ([138, memS (numS d) 7], 0)
  else if d = 17 ∧ wideS s = 8 then ([136, memS (numS s) 7], 0)
  else if d = 1 ∧ s = 18 then ([138, 4], 0)
  else if d = 18 ∧ s = 1 then ([136, 4], 0)
  else if d = 1 ∧ s = 19 then ([160], 2)
  else if d = 19 ∧ s = 1 then ([162], 2)
  else if wideS d = 16 ∧ d ≠ 9 ∧ s = 19 then ([139, memS (numS d) 6], 2)
  else if d = 19 ∧ wideS s = 16 ∧ s ≠ 9 then ([137, memS (numS s) 6], 2)
  else if wideS d = 8 ∧ s = 20 then ([bits .or .u8 176 (numS d)], 1)
  else if wideS d = 16 ∧ s = 20 then ([bits .or .u8 184 (numS d)], 2)
  else if d = 17 ∧ s = 20 then ([198, 7], 1)
  else ([], 0)

theorem wideS_range (c : Int) : (wideS c = 8 ∧ 1 ≤ c ∧ c ≤ 8) ∨ (wideS c = 16 ∧ 9 ≤ c ∧ c ≤ 16) ∨ (wideS c = 0 ∧ (c < 1 ∨ 16 < c)) := by
  unfold wideS
  split
  · left; omega
  · split
    · right; left; omega
    · right; right; omega

theorem numS_range (c : Int) : 0 ≤ numS c ∧ numS c ≤ 7 := by unfold numS; omega
theorem load137 {w : World} {g : Nat} {c0 c1 : Value} (h : Blk w g #[c0, c1]) : (loadVar 137 ⟨g, 0, none⟩).run Tryz.prog w = .ok (.agg #[c0, c1]) w := by
  have hc := h.cell
  simp [go_sem, hc]
theorem Byts.other {w : World} {A : Option Addr} {n c : Nat} {l : List Int} (h : Byts w (.slice A n c) l) (a : Addr) (hne : ∀ b o, A = some ⟨b, o, none⟩ → b ≠ a.block) (u : Value) : Byts (w.setCell a u) (.slice A n c) l := by
  obtain ⟨A', c', hv, h1, h2, h3, h4⟩ := h
  injection hv with e1 e2 e3
  subst e1; subst e3
  refine ⟨_, _, by rw [e2], h1, h2, h3, fun hp => ?_⟩
  obtain ⟨b, o, rfl, hb, hc⟩ := h4 hp
  refine ⟨b, o, rfl, by simpa using hb, fun j hj => ?_⟩
  rw [World.cell?_setCell_other _ _ _ _ (by intro e; exact hne b o rfl (by rw [e]))]
  exact hc j hj
theorem Byts.nil (w : World) : Byts w (.slice none 0 0) [] := ⟨none, 0, rfl, Nat.le_refl _, by omega, by simp, fun h => absurd h (by simp)⟩
theorem RHead.mk {w w' : World} {r : List Int × Int} {l : List Int} {t : Int} {A : Option Addr} {n c : Nat} (hr : r = (l, t)) (hn : l.length = n) (hb : Byts w' (.slice A n c) l) (hx : Ext w w') : RHead w r (.returned (.agg #[.slice A n c, .int .i64 t])) w' := by
  subst hr; subst hn
  exact ⟨A, c, rfl, hb, hx⟩
/-- The end of a function that answers a new head. -/
theorem head_end {w W : World} {r : List Int × Int} {l : List Int} {t : Int} {g1 n : Nat} {cs : Array Value} (hr : r = (l, t)) (hn : l.length = n) (hl : l.length ≤ 1000) (hrg : ∀ x ∈ l, 0 ≤ x ∧ x ≤ 255) (hcs : cs = (l.map (Value.int .u8)).toArray) (a b : Value)
    (W0 : World) (hW0 : Ext w W0) (hg : g1 = W0.heap.size) (hlt : w.heap.size < W0.heap.size) (hx : Ext (W0.alloc (.cells cs 5)) W) :
    RHead w r (.returned (.agg #[.slice (some ⟨g1, 0, none⟩) n n, .int .i64 t])) ((W.setCell ⟨w.heap.size, 0, none⟩ a).setCell ⟨w.heap.size, 1, none⟩ b) := by
  subst hg
  have hb := (Byts.alloc W0 l (by omega) hrg 5 cs hcs n hn.symm).ext hx
  refine RHead.mk hr hn ((hb.other _ ?_ _).other _ ?_ _) ((((hW0.alloc _).trans hx).setCell (Nat.le_refl _) _).setCell (Nat.le_refl _) _)
  · intro b o e; injection e with e; injection e with e1 e2; simp only; omega
  · intro b o e; injection e with e; injection e with e1 e2; simp only; omega

/-- The end of a function that answers a new head of one byte. -/
theorem head_end1 {w W : World} {r : List Int × Int} {x t : Int} {g1 : Nat} (W0 : World) (a b : Value) (hr : r = ([x], t)) (h0 : 0 ≤ x ∧ x ≤ 255) (hW0 : Ext w W0) (hg : g1 = W0.heap.size) (hlt : w.heap.size < W0.heap.size) (hx : Ext (W0.alloc (.cells #[.int .u8 x] 5)) W) :
    RHead w r (.returned (.agg #[.slice (some ⟨g1, 0, none⟩) 1 1, .int .i64 t])) ((W.setCell ⟨w.heap.size, 0, none⟩ a).setCell ⟨w.heap.size, 1, none⟩ b) :=
  head_end (l := [x]) (cs := #[.int .u8 x]) hr rfl (by simp) (by intro y hy; simp only [List.mem_cons, List.mem_nil_iff, or_false] at hy; subst hy; exact h0) rfl a b W0 hW0 hg hlt hx
/-- The end of a function that answers a new head of two bytes. -/
theorem head_end2 {w W : World} {r : List Int × Int} {x y t : Int} {g1 : Nat} (W0 : World) (a b : Value) (hr : r = ([x, y], t)) (h0 : 0 ≤ x ∧ x ≤ 255) (h1 : 0 ≤ y ∧ y ≤ 255) (hW0 : Ext w W0) (hg : g1 = W0.heap.size) (hlt : w.heap.size < W0.heap.size) (hx : Ext (W0.alloc (.cells #[.int .u8 x, .int .u8 y] 5)) W) :
    RHead w r (.returned (.agg #[.slice (some ⟨g1, 0, none⟩) 2 2, .int .i64 t])) ((W.setCell ⟨w.heap.size, 0, none⟩ a).setCell ⟨w.heap.size, 1, none⟩ b) :=
  head_end (l := [x, y]) (cs := #[.int .u8 x, .int .u8 y]) hr rfl (by simp) (by intro z hz; simp only [List.mem_cons, List.mem_nil_iff, or_false] at hz; rcases hz with rfl | rfl <;> assumption) rfl a b W0 hW0 hg hlt hx
theorem memS_range (x y : Int) (h0 : 0 ≤ x) (h1 : x ≤ 7) (h2 : 0 ≤ y) (h3 : y ≤ 7) : 0 ≤ memS x y ∧ memS x y ≤ 255 := by
  obtain ⟨n, rfl⟩ := Int.eq_ofNat_of_zero_le h0
  obtain ⟨m, rfl⟩ := Int.eq_ofNat_of_zero_le h2
  have key : ∀ i j : Fin 8, 0 ≤ memS (i.val : Nat) (j.val : Nat) ∧ memS (i.val : Nat) (j.val : Nat) ≤ 255 := by decide +kernel
  exact key ⟨n, by omega⟩ ⟨m, by omega⟩
theorem rmS_range (x y : Int) (h0 : 0 ≤ x) (h1 : x ≤ 7) (h2 : 0 ≤ y) (h3 : y ≤ 7) : 0 ≤ rmS x y ∧ rmS x y ≤ 255 := by
  obtain ⟨n, rfl⟩ := Int.eq_ofNat_of_zero_le h0
  obtain ⟨m, rfl⟩ := Int.eq_ofNat_of_zero_le h2
  have key : ∀ i j : Fin 8, 0 ≤ rmS (i.val : Nat) (j.val : Nat) ∧ rmS (i.val : Nat) (j.val : Nat) ≤ 255 := by decide +kernel
  exact key ⟨n, by omega⟩ ⟨m, by omega⟩
theorem or_range (k x : Int) (hk : 0 ≤ k ∧ k ≤ 255) (h0 : 0 ≤ x) (h1 : x ≤ 255) : 0 ≤ bits .or .u8 k x ∧ bits .or .u8 k x ≤ 255 := by
  rw [u8_or k x hk.1 (by omega) h0 (by omega)]
  have : k.toNat ||| x.toNat < 2 ^ 8 := Nat.or_lt_two_pow (by omega) (by omega)
  omega

-- NINE
def MMs (d s : Int) : Prop := (0 ≤ memS (numS d) 7 ∧ memS (numS d) 7 ≤ 255) ∧ (0 ≤ memS (numS s) 7 ∧ memS (numS s) 7 ≤ 255) ∧ (0 ≤ memS (numS d) 6 ∧ memS (numS d) 6 ≤ 255) ∧ (0 ≤ memS (numS s) 6 ∧ memS (numS s) 6 ≤ 255) ∧ (0 ≤ bits .or .u8 176 (numS d) ∧ bits .or .u8 176 (numS d) ≤ 255) ∧ (0 ≤ bits .or .u8 184 (numS d) ∧ bits .or .u8 184 (numS d) ≤ 255)
theorem MMs.of (d s : Int) : MMs d s := by
  have hnd := numS_range d
  have hns := numS_range s
  exact ⟨memS_range (numS d) 7 hnd.1 hnd.2 (by omega) (by omega), memS_range (numS s) 7 hns.1 hns.2 (by omega) (by omega), memS_range (numS d) 6 hnd.1 hnd.2 (by omega) (by omega), memS_range (numS s) 6 hns.1 hns.2 (by omega) (by omega), or_range 176 (numS d) (by omega) hnd.1 (by omega), or_range 184 (numS d) (by omega) hnd.1 (by omega)⟩
theorem places_8_8 (d s : Int) (w : World) (hwd : wideS d = 8) (hws : wideS s = 8) (d1 : 1 ≤ d) (d2 : d ≤ 8) (s1 : 1 ≤ s) (s2 : s ≤ 8) : Calls Tryz.prog 194 #[.int .i64 d, .int .i64 s] w (RHead w (placesS d s)) := by
  have hnd := numS_range d
  have hns := numS_range s
  have MM := Lib.hid (MMs.of d s)
  unfold MMs at MM
  have HWD := Lib.hid hwd; have HWS := Lib.hid hws
  clear hwd hws
  have e17 : (d == 17) = false := by simp; omega
  have e18 : (d == 18) = false := by simp; omega
  have e19 : (d == 19) = false := by simp; omega
  have e9 : (d == 9) = false := by simp; omega
  have g17 : (s == 17) = false := by simp; omega
  have g18 : (s == 18) = false := by simp; omega
  have g19 : (s == 19) = false := by simp; omega
  have g20 : (s == 20) = false := by simp; omega
  go_enter Tryz.func194, Tryz.ntmps194
  go_wp2_with (first
    | (go_at_call 191; ((with_reducible refine (wide_any _ _).mono ?_); (first | rw [HWD.out] | rw [HWS.out] | rw [show wideS 1 = 8 from rfl] | rw [show wideS 9 = 16 from rfl] | rw [show wideS 17 = 0 from rfl] | rw [show wideS 18 = 0 from rfl] | rw [show wideS 19 = 0 from rfl] | rw [show wideS 20 = 0 from rfl]); rintro e w' ⟨rfl, rfl⟩))
    | (go_at_call 193; ((with_reducible refine (num_any _ (by omega) (by omega) _).mono ?_); rintro e w' ⟨rfl, rfl⟩))
    | (go_at_call 195; ((with_reducible refine (mem_any _ _ (by omega) (by omega) _).mono ?_); rintro e w' ⟨rfl, rfl⟩))
    | (go_at_call 159; ((with_reducible refine (of159_any _ _ _ _ _).mono ?_); rintro e w1 ⟨rfl, hx1⟩; have B0 := ((Blk.new w #[.slice none 0 0, .int .i64 0] 137).alloc _).ext hx1; have k0 := B0.cell; have f0 := B0.frozen)))
  all_goals first
    | (refine bodyPost_ret (res1 rfl _ _ _ w.heap.size _ rfl (load137 ((B0.put 0 _).put 1 _))) rfl (head_end2 (w.alloc (.cells #[.slice none 0 0, .int .i64 0] 137)) _ _ ?_ ?_ ?_ ((Ext.refl w).alloc _) (by simp) (by simp) hx1) <;> clear hx1 B0 k0 f0
       · simp only [beq_iff_eq, beq_eq_false_iff_ne, bne_iff_ne, bne_eq_false_iff_eq] at *
         subst_vars
         unfold placesS
         rw [HWD.out, HWS.out]
         repeat (first | rw [if_pos (by omega)] | rw [if_neg (by omega)])
       · have M := MM.out
         omega
       · have M := MM.out
         omega)
    | (refine bodyPost_ret (res1 rfl _ _ _ w.heap.size _ rfl (load137 ((B0.put 0 _).put 1 _))) rfl (head_end1 (w.alloc (.cells #[.slice none 0 0, .int .i64 0] 137)) _ _ ?_ ?_ ((Ext.refl w).alloc _) (by simp) (by simp) hx1) <;> clear hx1 B0 k0 f0
       · simp only [beq_iff_eq, beq_eq_false_iff_ne, bne_iff_ne, bne_eq_false_iff_eq] at *
         subst_vars
         unfold placesS
         rw [HWD.out, HWS.out]
         repeat (first | rw [if_pos (by omega)] | rw [if_neg (by omega)])
       · have M := MM.out
         subst_vars
         omega)
    | (refine bodyPost_ret (res1 rfl _ _ _ w.heap.size _ rfl (load137 (c0 := .slice none 0 0) (c1 := .int .i64 0) (Blk.new w _ 137))) rfl (RHead.mk (l := []) (n := 0) (t := 0) ?_ rfl (Byts.nil _) ((Ext.refl _).alloc _))
       simp only [beq_iff_eq, beq_eq_false_iff_ne, bne_iff_ne, bne_eq_false_iff_eq] at *
       subst_vars
       unfold placesS
       rw [HWD.out, HWS.out]
       repeat (first | rw [if_pos (by omega)] | rw [if_neg (by omega)]))
theorem places_8_16 (d s : Int) (w : World) (hwd : wideS d = 8) (hws : wideS s = 16) (d1 : 1 ≤ d) (d2 : d ≤ 8) (s1 : 9 ≤ s) (s2 : s ≤ 16) : Calls Tryz.prog 194 #[.int .i64 d, .int .i64 s] w (RHead w (placesS d s)) := by
  have hnd := numS_range d
  have hns := numS_range s
  have MM := Lib.hid (MMs.of d s)
  unfold MMs at MM
  have HWD := Lib.hid hwd; have HWS := Lib.hid hws
  clear hwd hws
  have e17 : (d == 17) = false := by simp; omega
  have e18 : (d == 18) = false := by simp; omega
  have e19 : (d == 19) = false := by simp; omega
  have e9 : (d == 9) = false := by simp; omega
  have g17 : (s == 17) = false := by simp; omega
  have g18 : (s == 18) = false := by simp; omega
  have g19 : (s == 19) = false := by simp; omega
  have g20 : (s == 20) = false := by simp; omega
  go_enter Tryz.func194, Tryz.ntmps194
  go_wp2_with (first
    | (go_at_call 191; ((with_reducible refine (wide_any _ _).mono ?_); (first | rw [HWD.out] | rw [HWS.out] | rw [show wideS 1 = 8 from rfl] | rw [show wideS 9 = 16 from rfl] | rw [show wideS 17 = 0 from rfl] | rw [show wideS 18 = 0 from rfl] | rw [show wideS 19 = 0 from rfl] | rw [show wideS 20 = 0 from rfl]); rintro e w' ⟨rfl, rfl⟩))
    | (go_at_call 193; ((with_reducible refine (num_any _ (by omega) (by omega) _).mono ?_); rintro e w' ⟨rfl, rfl⟩))
    | (go_at_call 195; ((with_reducible refine (mem_any _ _ (by omega) (by omega) _).mono ?_); rintro e w' ⟨rfl, rfl⟩))
    | (go_at_call 159; ((with_reducible refine (of159_any _ _ _ _ _).mono ?_); rintro e w1 ⟨rfl, hx1⟩; have B0 := ((Blk.new w #[.slice none 0 0, .int .i64 0] 137).alloc _).ext hx1; have k0 := B0.cell; have f0 := B0.frozen)))
  all_goals first
    | (refine bodyPost_ret (res1 rfl _ _ _ w.heap.size _ rfl (load137 ((B0.put 0 _).put 1 _))) rfl (head_end2 (w.alloc (.cells #[.slice none 0 0, .int .i64 0] 137)) _ _ ?_ ?_ ?_ ((Ext.refl w).alloc _) (by simp) (by simp) hx1) <;> clear hx1 B0 k0 f0
       · simp only [beq_iff_eq, beq_eq_false_iff_ne, bne_iff_ne, bne_eq_false_iff_eq] at *
         subst_vars
         unfold placesS
         rw [HWD.out, HWS.out]
         repeat (first | rw [if_pos (by omega)] | rw [if_neg (by omega)])
       · have M := MM.out
         omega
       · have M := MM.out
         omega)
    | (refine bodyPost_ret (res1 rfl _ _ _ w.heap.size _ rfl (load137 ((B0.put 0 _).put 1 _))) rfl (head_end1 (w.alloc (.cells #[.slice none 0 0, .int .i64 0] 137)) _ _ ?_ ?_ ((Ext.refl w).alloc _) (by simp) (by simp) hx1) <;> clear hx1 B0 k0 f0
       · simp only [beq_iff_eq, beq_eq_false_iff_ne, bne_iff_ne, bne_eq_false_iff_eq] at *
         subst_vars
         unfold placesS
         rw [HWD.out, HWS.out]
         repeat (first | rw [if_pos (by omega)] | rw [if_neg (by omega)])
       · have M := MM.out
         subst_vars
         omega)
    | (refine bodyPost_ret (res1 rfl _ _ _ w.heap.size _ rfl (load137 (c0 := .slice none 0 0) (c1 := .int .i64 0) (Blk.new w _ 137))) rfl (RHead.mk (l := []) (n := 0) (t := 0) ?_ rfl (Byts.nil _) ((Ext.refl _).alloc _))
       simp only [beq_iff_eq, beq_eq_false_iff_ne, bne_iff_ne, bne_eq_false_iff_eq] at *
       subst_vars
       unfold placesS
       rw [HWD.out, HWS.out]
       repeat (first | rw [if_pos (by omega)] | rw [if_neg (by omega)]))
theorem places_8_0 (d s : Int) (w : World) (hwd : wideS d = 8) (hws : wideS s = 0) (d1 : 1 ≤ d) (d2 : d ≤ 8) (s1 : s < 1 ∨ 16 < s) : Calls Tryz.prog 194 #[.int .i64 d, .int .i64 s] w (RHead w (placesS d s)) := by
  have hnd := numS_range d
  have hns := numS_range s
  have MM := Lib.hid (MMs.of d s)
  unfold MMs at MM
  have HWD := Lib.hid hwd; have HWS := Lib.hid hws
  clear hwd hws
  have e17 : (d == 17) = false := by simp; omega
  have e18 : (d == 18) = false := by simp; omega
  have e19 : (d == 19) = false := by simp; omega
  have e9 : (d == 9) = false := by simp; omega
  have g1 : (s == 1) = false := by simp; omega
  have g9 : (s == 9) = false := by simp; omega
  go_enter Tryz.func194, Tryz.ntmps194
  go_wp2_with (first
    | (go_at_call 191; ((with_reducible refine (wide_any _ _).mono ?_); (first | rw [HWD.out] | rw [HWS.out] | rw [show wideS 1 = 8 from rfl] | rw [show wideS 9 = 16 from rfl] | rw [show wideS 17 = 0 from rfl] | rw [show wideS 18 = 0 from rfl] | rw [show wideS 19 = 0 from rfl] | rw [show wideS 20 = 0 from rfl]); rintro e w' ⟨rfl, rfl⟩))
    | (go_at_call 193; ((with_reducible refine (num_any _ (by omega) (by omega) _).mono ?_); rintro e w' ⟨rfl, rfl⟩))
    | (go_at_call 195; ((with_reducible refine (mem_any _ _ (by omega) (by omega) _).mono ?_); rintro e w' ⟨rfl, rfl⟩))
    | (go_at_call 159; ((with_reducible refine (of159_any _ _ _ _ _).mono ?_); rintro e w1 ⟨rfl, hx1⟩; have B0 := ((Blk.new w #[.slice none 0 0, .int .i64 0] 137).alloc _).ext hx1; have k0 := B0.cell; have f0 := B0.frozen)))
  all_goals first
    | (refine bodyPost_ret (res1 rfl _ _ _ w.heap.size _ rfl (load137 ((B0.put 0 _).put 1 _))) rfl (head_end2 (w.alloc (.cells #[.slice none 0 0, .int .i64 0] 137)) _ _ ?_ ?_ ?_ ((Ext.refl w).alloc _) (by simp) (by simp) hx1) <;> clear hx1 B0 k0 f0
       · simp only [beq_iff_eq, beq_eq_false_iff_ne, bne_iff_ne, bne_eq_false_iff_eq] at *
         subst_vars
         unfold placesS
         rw [HWD.out, HWS.out]
         repeat (first | rw [if_pos (by omega)] | rw [if_neg (by omega)])
       · have M := MM.out
         omega
       · have M := MM.out
         omega)
    | (refine bodyPost_ret (res1 rfl _ _ _ w.heap.size _ rfl (load137 ((B0.put 0 _).put 1 _))) rfl (head_end1 (w.alloc (.cells #[.slice none 0 0, .int .i64 0] 137)) _ _ ?_ ?_ ((Ext.refl w).alloc _) (by simp) (by simp) hx1) <;> clear hx1 B0 k0 f0
       · simp only [beq_iff_eq, beq_eq_false_iff_ne, bne_iff_ne, bne_eq_false_iff_eq] at *
         subst_vars
         unfold placesS
         rw [HWD.out, HWS.out]
         repeat (first | rw [if_pos (by omega)] | rw [if_neg (by omega)])
       · have M := MM.out
         subst_vars
         omega)
    | (refine bodyPost_ret (res1 rfl _ _ _ w.heap.size _ rfl (load137 (c0 := .slice none 0 0) (c1 := .int .i64 0) (Blk.new w _ 137))) rfl (RHead.mk (l := []) (n := 0) (t := 0) ?_ rfl (Byts.nil _) ((Ext.refl _).alloc _))
       simp only [beq_iff_eq, beq_eq_false_iff_ne, bne_iff_ne, bne_eq_false_iff_eq] at *
       subst_vars
       unfold placesS
       rw [HWD.out, HWS.out]
       repeat (first | rw [if_pos (by omega)] | rw [if_neg (by omega)]))
theorem places_16_8 (d s : Int) (w : World) (hwd : wideS d = 16) (hws : wideS s = 8) (d1 : 9 ≤ d) (d2 : d ≤ 16) (s1 : 1 ≤ s) (s2 : s ≤ 8) : Calls Tryz.prog 194 #[.int .i64 d, .int .i64 s] w (RHead w (placesS d s)) := by
  have hnd := numS_range d
  have hns := numS_range s
  have MM := Lib.hid (MMs.of d s)
  unfold MMs at MM
  have HWD := Lib.hid hwd; have HWS := Lib.hid hws
  clear hwd hws
  have e17 : (d == 17) = false := by simp; omega
  have e18 : (d == 18) = false := by simp; omega
  have e19 : (d == 19) = false := by simp; omega
  have e1 : (d == 1) = false := by simp; omega
  have g17 : (s == 17) = false := by simp; omega
  have g18 : (s == 18) = false := by simp; omega
  have g19 : (s == 19) = false := by simp; omega
  have g20 : (s == 20) = false := by simp; omega
  go_enter Tryz.func194, Tryz.ntmps194
  go_wp2_with (first
    | (go_at_call 191; ((with_reducible refine (wide_any _ _).mono ?_); (first | rw [HWD.out] | rw [HWS.out] | rw [show wideS 1 = 8 from rfl] | rw [show wideS 9 = 16 from rfl] | rw [show wideS 17 = 0 from rfl] | rw [show wideS 18 = 0 from rfl] | rw [show wideS 19 = 0 from rfl] | rw [show wideS 20 = 0 from rfl]); rintro e w' ⟨rfl, rfl⟩))
    | (go_at_call 193; ((with_reducible refine (num_any _ (by omega) (by omega) _).mono ?_); rintro e w' ⟨rfl, rfl⟩))
    | (go_at_call 195; ((with_reducible refine (mem_any _ _ (by omega) (by omega) _).mono ?_); rintro e w' ⟨rfl, rfl⟩))
    | (go_at_call 159; ((with_reducible refine (of159_any _ _ _ _ _).mono ?_); rintro e w1 ⟨rfl, hx1⟩; have B0 := ((Blk.new w #[.slice none 0 0, .int .i64 0] 137).alloc _).ext hx1; have k0 := B0.cell; have f0 := B0.frozen)))
  all_goals first
    | (refine bodyPost_ret (res1 rfl _ _ _ w.heap.size _ rfl (load137 ((B0.put 0 _).put 1 _))) rfl (head_end2 (w.alloc (.cells #[.slice none 0 0, .int .i64 0] 137)) _ _ ?_ ?_ ?_ ((Ext.refl w).alloc _) (by simp) (by simp) hx1) <;> clear hx1 B0 k0 f0
       · simp only [beq_iff_eq, beq_eq_false_iff_ne, bne_iff_ne, bne_eq_false_iff_eq] at *
         subst_vars
         unfold placesS
         rw [HWD.out, HWS.out]
         repeat (first | rw [if_pos (by omega)] | rw [if_neg (by omega)])
       · have M := MM.out
         omega
       · have M := MM.out
         omega)
    | (refine bodyPost_ret (res1 rfl _ _ _ w.heap.size _ rfl (load137 ((B0.put 0 _).put 1 _))) rfl (head_end1 (w.alloc (.cells #[.slice none 0 0, .int .i64 0] 137)) _ _ ?_ ?_ ((Ext.refl w).alloc _) (by simp) (by simp) hx1) <;> clear hx1 B0 k0 f0
       · simp only [beq_iff_eq, beq_eq_false_iff_ne, bne_iff_ne, bne_eq_false_iff_eq] at *
         subst_vars
         unfold placesS
         rw [HWD.out, HWS.out]
         repeat (first | rw [if_pos (by omega)] | rw [if_neg (by omega)])
       · have M := MM.out
         subst_vars
         omega)
    | (refine bodyPost_ret (res1 rfl _ _ _ w.heap.size _ rfl (load137 (c0 := .slice none 0 0) (c1 := .int .i64 0) (Blk.new w _ 137))) rfl (RHead.mk (l := []) (n := 0) (t := 0) ?_ rfl (Byts.nil _) ((Ext.refl _).alloc _))
       simp only [beq_iff_eq, beq_eq_false_iff_ne, bne_iff_ne, bne_eq_false_iff_eq] at *
       subst_vars
       unfold placesS
       rw [HWD.out, HWS.out]
       repeat (first | rw [if_pos (by omega)] | rw [if_neg (by omega)]))
theorem places_16_16 (d s : Int) (w : World) (hwd : wideS d = 16) (hws : wideS s = 16) (d1 : 9 ≤ d) (d2 : d ≤ 16) (s1 : 9 ≤ s) (s2 : s ≤ 16) : Calls Tryz.prog 194 #[.int .i64 d, .int .i64 s] w (RHead w (placesS d s)) := by
  have hnd := numS_range d
  have hns := numS_range s
  have MM := Lib.hid (MMs.of d s)
  unfold MMs at MM
  have HWD := Lib.hid hwd; have HWS := Lib.hid hws
  clear hwd hws
  have e17 : (d == 17) = false := by simp; omega
  have e18 : (d == 18) = false := by simp; omega
  have e19 : (d == 19) = false := by simp; omega
  have e1 : (d == 1) = false := by simp; omega
  have g17 : (s == 17) = false := by simp; omega
  have g18 : (s == 18) = false := by simp; omega
  have g19 : (s == 19) = false := by simp; omega
  have g20 : (s == 20) = false := by simp; omega
  go_enter Tryz.func194, Tryz.ntmps194
  go_wp2_with (first
    | (go_at_call 191; ((with_reducible refine (wide_any _ _).mono ?_); (first | rw [HWD.out] | rw [HWS.out] | rw [show wideS 1 = 8 from rfl] | rw [show wideS 9 = 16 from rfl] | rw [show wideS 17 = 0 from rfl] | rw [show wideS 18 = 0 from rfl] | rw [show wideS 19 = 0 from rfl] | rw [show wideS 20 = 0 from rfl]); rintro e w' ⟨rfl, rfl⟩))
    | (go_at_call 193; ((with_reducible refine (num_any _ (by omega) (by omega) _).mono ?_); rintro e w' ⟨rfl, rfl⟩))
    | (go_at_call 195; ((with_reducible refine (mem_any _ _ (by omega) (by omega) _).mono ?_); rintro e w' ⟨rfl, rfl⟩))
    | (go_at_call 159; ((with_reducible refine (of159_any _ _ _ _ _).mono ?_); rintro e w1 ⟨rfl, hx1⟩; have B0 := ((Blk.new w #[.slice none 0 0, .int .i64 0] 137).alloc _).ext hx1; have k0 := B0.cell; have f0 := B0.frozen)))
  all_goals first
    | (refine bodyPost_ret (res1 rfl _ _ _ w.heap.size _ rfl (load137 ((B0.put 0 _).put 1 _))) rfl (head_end2 (w.alloc (.cells #[.slice none 0 0, .int .i64 0] 137)) _ _ ?_ ?_ ?_ ((Ext.refl w).alloc _) (by simp) (by simp) hx1) <;> clear hx1 B0 k0 f0
       · simp only [beq_iff_eq, beq_eq_false_iff_ne, bne_iff_ne, bne_eq_false_iff_eq] at *
         subst_vars
         unfold placesS
         rw [HWD.out, HWS.out]
         repeat (first | rw [if_pos (by omega)] | rw [if_neg (by omega)])
       · have M := MM.out
         omega
       · have M := MM.out
         omega)
    | (refine bodyPost_ret (res1 rfl _ _ _ w.heap.size _ rfl (load137 ((B0.put 0 _).put 1 _))) rfl (head_end1 (w.alloc (.cells #[.slice none 0 0, .int .i64 0] 137)) _ _ ?_ ?_ ((Ext.refl w).alloc _) (by simp) (by simp) hx1) <;> clear hx1 B0 k0 f0
       · simp only [beq_iff_eq, beq_eq_false_iff_ne, bne_iff_ne, bne_eq_false_iff_eq] at *
         subst_vars
         unfold placesS
         rw [HWD.out, HWS.out]
         repeat (first | rw [if_pos (by omega)] | rw [if_neg (by omega)])
       · have M := MM.out
         subst_vars
         omega)
    | (refine bodyPost_ret (res1 rfl _ _ _ w.heap.size _ rfl (load137 (c0 := .slice none 0 0) (c1 := .int .i64 0) (Blk.new w _ 137))) rfl (RHead.mk (l := []) (n := 0) (t := 0) ?_ rfl (Byts.nil _) ((Ext.refl _).alloc _))
       simp only [beq_iff_eq, beq_eq_false_iff_ne, bne_iff_ne, bne_eq_false_iff_eq] at *
       subst_vars
       unfold placesS
       rw [HWD.out, HWS.out]
       repeat (first | rw [if_pos (by omega)] | rw [if_neg (by omega)]))
theorem places_16_0 (d s : Int) (w : World) (hwd : wideS d = 16) (hws : wideS s = 0) (d1 : 9 ≤ d) (d2 : d ≤ 16) (s1 : s < 1 ∨ 16 < s) : Calls Tryz.prog 194 #[.int .i64 d, .int .i64 s] w (RHead w (placesS d s)) := by
  have hnd := numS_range d
  have hns := numS_range s
  have MM := Lib.hid (MMs.of d s)
  unfold MMs at MM
  have HWD := Lib.hid hwd; have HWS := Lib.hid hws
  clear hwd hws
  have e17 : (d == 17) = false := by simp; omega
  have e18 : (d == 18) = false := by simp; omega
  have e19 : (d == 19) = false := by simp; omega
  have e1 : (d == 1) = false := by simp; omega
  have g1 : (s == 1) = false := by simp; omega
  have g9 : (s == 9) = false := by simp; omega
  go_enter Tryz.func194, Tryz.ntmps194
  go_wp2_with (first
    | (go_at_call 191; ((with_reducible refine (wide_any _ _).mono ?_); (first | rw [HWD.out] | rw [HWS.out] | rw [show wideS 1 = 8 from rfl] | rw [show wideS 9 = 16 from rfl] | rw [show wideS 17 = 0 from rfl] | rw [show wideS 18 = 0 from rfl] | rw [show wideS 19 = 0 from rfl] | rw [show wideS 20 = 0 from rfl]); rintro e w' ⟨rfl, rfl⟩))
    | (go_at_call 193; ((with_reducible refine (num_any _ (by omega) (by omega) _).mono ?_); rintro e w' ⟨rfl, rfl⟩))
    | (go_at_call 195; ((with_reducible refine (mem_any _ _ (by omega) (by omega) _).mono ?_); rintro e w' ⟨rfl, rfl⟩))
    | (go_at_call 159; ((with_reducible refine (of159_any _ _ _ _ _).mono ?_); rintro e w1 ⟨rfl, hx1⟩; have B0 := ((Blk.new w #[.slice none 0 0, .int .i64 0] 137).alloc _).ext hx1; have k0 := B0.cell; have f0 := B0.frozen)))
  all_goals first
    | (refine bodyPost_ret (res1 rfl _ _ _ w.heap.size _ rfl (load137 ((B0.put 0 _).put 1 _))) rfl (head_end2 (w.alloc (.cells #[.slice none 0 0, .int .i64 0] 137)) _ _ ?_ ?_ ?_ ((Ext.refl w).alloc _) (by simp) (by simp) hx1) <;> clear hx1 B0 k0 f0
       · simp only [beq_iff_eq, beq_eq_false_iff_ne, bne_iff_ne, bne_eq_false_iff_eq] at *
         subst_vars
         unfold placesS
         rw [HWD.out, HWS.out]
         repeat (first | rw [if_pos (by omega)] | rw [if_neg (by omega)])
       · have M := MM.out
         omega
       · have M := MM.out
         omega)
    | (refine bodyPost_ret (res1 rfl _ _ _ w.heap.size _ rfl (load137 ((B0.put 0 _).put 1 _))) rfl (head_end1 (w.alloc (.cells #[.slice none 0 0, .int .i64 0] 137)) _ _ ?_ ?_ ((Ext.refl w).alloc _) (by simp) (by simp) hx1) <;> clear hx1 B0 k0 f0
       · simp only [beq_iff_eq, beq_eq_false_iff_ne, bne_iff_ne, bne_eq_false_iff_eq] at *
         subst_vars
         unfold placesS
         rw [HWD.out, HWS.out]
         repeat (first | rw [if_pos (by omega)] | rw [if_neg (by omega)])
       · have M := MM.out
         subst_vars
         omega)
    | (refine bodyPost_ret (res1 rfl _ _ _ w.heap.size _ rfl (load137 (c0 := .slice none 0 0) (c1 := .int .i64 0) (Blk.new w _ 137))) rfl (RHead.mk (l := []) (n := 0) (t := 0) ?_ rfl (Byts.nil _) ((Ext.refl _).alloc _))
       simp only [beq_iff_eq, beq_eq_false_iff_ne, bne_iff_ne, bne_eq_false_iff_eq] at *
       subst_vars
       unfold placesS
       rw [HWD.out, HWS.out]
       repeat (first | rw [if_pos (by omega)] | rw [if_neg (by omega)]))
theorem places_0_8 (d s : Int) (w : World) (hwd : wideS d = 0) (hws : wideS s = 8) (d1 : d < 1 ∨ 16 < d) (s1 : 1 ≤ s) (s2 : s ≤ 8) : Calls Tryz.prog 194 #[.int .i64 d, .int .i64 s] w (RHead w (placesS d s)) := by
  have hnd := numS_range d
  have hns := numS_range s
  have MM := Lib.hid (MMs.of d s)
  unfold MMs at MM
  have HWD := Lib.hid hwd; have HWS := Lib.hid hws
  clear hwd hws
  have e1 : (d == 1) = false := by simp; omega
  have e9 : (d == 9) = false := by simp; omega
  have g17 : (s == 17) = false := by simp; omega
  have g18 : (s == 18) = false := by simp; omega
  have g19 : (s == 19) = false := by simp; omega
  have g20 : (s == 20) = false := by simp; omega
  go_enter Tryz.func194, Tryz.ntmps194
  go_wp2_with (first
    | (go_at_call 191; ((with_reducible refine (wide_any _ _).mono ?_); (first | rw [HWD.out] | rw [HWS.out] | rw [show wideS 1 = 8 from rfl] | rw [show wideS 9 = 16 from rfl] | rw [show wideS 17 = 0 from rfl] | rw [show wideS 18 = 0 from rfl] | rw [show wideS 19 = 0 from rfl] | rw [show wideS 20 = 0 from rfl]); rintro e w' ⟨rfl, rfl⟩))
    | (go_at_call 193; ((with_reducible refine (num_any _ (by omega) (by omega) _).mono ?_); rintro e w' ⟨rfl, rfl⟩))
    | (go_at_call 195; ((with_reducible refine (mem_any _ _ (by omega) (by omega) _).mono ?_); rintro e w' ⟨rfl, rfl⟩))
    | (go_at_call 159; ((with_reducible refine (of159_any _ _ _ _ _).mono ?_); rintro e w1 ⟨rfl, hx1⟩; have B0 := ((Blk.new w #[.slice none 0 0, .int .i64 0] 137).alloc _).ext hx1; have k0 := B0.cell; have f0 := B0.frozen)))
  all_goals first
    | (refine bodyPost_ret (res1 rfl _ _ _ w.heap.size _ rfl (load137 ((B0.put 0 _).put 1 _))) rfl (head_end2 (w.alloc (.cells #[.slice none 0 0, .int .i64 0] 137)) _ _ ?_ ?_ ?_ ((Ext.refl w).alloc _) (by simp) (by simp) hx1) <;> clear hx1 B0 k0 f0
       · simp only [beq_iff_eq, beq_eq_false_iff_ne, bne_iff_ne, bne_eq_false_iff_eq] at *
         subst_vars
         unfold placesS
         rw [HWD.out, HWS.out]
         repeat (first | rw [if_pos (by omega)] | rw [if_neg (by omega)])
       · have M := MM.out
         omega
       · have M := MM.out
         omega)
    | (refine bodyPost_ret (res1 rfl _ _ _ w.heap.size _ rfl (load137 ((B0.put 0 _).put 1 _))) rfl (head_end1 (w.alloc (.cells #[.slice none 0 0, .int .i64 0] 137)) _ _ ?_ ?_ ((Ext.refl w).alloc _) (by simp) (by simp) hx1) <;> clear hx1 B0 k0 f0
       · simp only [beq_iff_eq, beq_eq_false_iff_ne, bne_iff_ne, bne_eq_false_iff_eq] at *
         subst_vars
         unfold placesS
         rw [HWD.out, HWS.out]
         repeat (first | rw [if_pos (by omega)] | rw [if_neg (by omega)])
       · have M := MM.out
         subst_vars
         omega)
    | (refine bodyPost_ret (res1 rfl _ _ _ w.heap.size _ rfl (load137 (c0 := .slice none 0 0) (c1 := .int .i64 0) (Blk.new w _ 137))) rfl (RHead.mk (l := []) (n := 0) (t := 0) ?_ rfl (Byts.nil _) ((Ext.refl _).alloc _))
       simp only [beq_iff_eq, beq_eq_false_iff_ne, bne_iff_ne, bne_eq_false_iff_eq] at *
       subst_vars
       unfold placesS
       rw [HWD.out, HWS.out]
       repeat (first | rw [if_pos (by omega)] | rw [if_neg (by omega)]))
theorem places_0_16 (d s : Int) (w : World) (hwd : wideS d = 0) (hws : wideS s = 16) (d1 : d < 1 ∨ 16 < d) (s1 : 9 ≤ s) (s2 : s ≤ 16) : Calls Tryz.prog 194 #[.int .i64 d, .int .i64 s] w (RHead w (placesS d s)) := by
  have hnd := numS_range d
  have hns := numS_range s
  have MM := Lib.hid (MMs.of d s)
  unfold MMs at MM
  have HWD := Lib.hid hwd; have HWS := Lib.hid hws
  clear hwd hws
  have e1 : (d == 1) = false := by simp; omega
  have e9 : (d == 9) = false := by simp; omega
  have g17 : (s == 17) = false := by simp; omega
  have g18 : (s == 18) = false := by simp; omega
  have g19 : (s == 19) = false := by simp; omega
  have g20 : (s == 20) = false := by simp; omega
  go_enter Tryz.func194, Tryz.ntmps194
  go_wp2_with (first
    | (go_at_call 191; ((with_reducible refine (wide_any _ _).mono ?_); (first | rw [HWD.out] | rw [HWS.out] | rw [show wideS 1 = 8 from rfl] | rw [show wideS 9 = 16 from rfl] | rw [show wideS 17 = 0 from rfl] | rw [show wideS 18 = 0 from rfl] | rw [show wideS 19 = 0 from rfl] | rw [show wideS 20 = 0 from rfl]); rintro e w' ⟨rfl, rfl⟩))
    | (go_at_call 193; ((with_reducible refine (num_any _ (by omega) (by omega) _).mono ?_); rintro e w' ⟨rfl, rfl⟩))
    | (go_at_call 195; ((with_reducible refine (mem_any _ _ (by omega) (by omega) _).mono ?_); rintro e w' ⟨rfl, rfl⟩))
    | (go_at_call 159; ((with_reducible refine (of159_any _ _ _ _ _).mono ?_); rintro e w1 ⟨rfl, hx1⟩; have B0 := ((Blk.new w #[.slice none 0 0, .int .i64 0] 137).alloc _).ext hx1; have k0 := B0.cell; have f0 := B0.frozen)))
  all_goals first
    | (refine bodyPost_ret (res1 rfl _ _ _ w.heap.size _ rfl (load137 ((B0.put 0 _).put 1 _))) rfl (head_end2 (w.alloc (.cells #[.slice none 0 0, .int .i64 0] 137)) _ _ ?_ ?_ ?_ ((Ext.refl w).alloc _) (by simp) (by simp) hx1) <;> clear hx1 B0 k0 f0
       · simp only [beq_iff_eq, beq_eq_false_iff_ne, bne_iff_ne, bne_eq_false_iff_eq] at *
         subst_vars
         unfold placesS
         rw [HWD.out, HWS.out]
         repeat (first | rw [if_pos (by omega)] | rw [if_neg (by omega)])
       · have M := MM.out
         omega
       · have M := MM.out
         omega)
    | (refine bodyPost_ret (res1 rfl _ _ _ w.heap.size _ rfl (load137 ((B0.put 0 _).put 1 _))) rfl (head_end1 (w.alloc (.cells #[.slice none 0 0, .int .i64 0] 137)) _ _ ?_ ?_ ((Ext.refl w).alloc _) (by simp) (by simp) hx1) <;> clear hx1 B0 k0 f0
       · simp only [beq_iff_eq, beq_eq_false_iff_ne, bne_iff_ne, bne_eq_false_iff_eq] at *
         subst_vars
         unfold placesS
         rw [HWD.out, HWS.out]
         repeat (first | rw [if_pos (by omega)] | rw [if_neg (by omega)])
       · have M := MM.out
         subst_vars
         omega)
    | (refine bodyPost_ret (res1 rfl _ _ _ w.heap.size _ rfl (load137 (c0 := .slice none 0 0) (c1 := .int .i64 0) (Blk.new w _ 137))) rfl (RHead.mk (l := []) (n := 0) (t := 0) ?_ rfl (Byts.nil _) ((Ext.refl _).alloc _))
       simp only [beq_iff_eq, beq_eq_false_iff_ne, bne_iff_ne, bne_eq_false_iff_eq] at *
       subst_vars
       unfold placesS
       rw [HWD.out, HWS.out]
       repeat (first | rw [if_pos (by omega)] | rw [if_neg (by omega)]))
theorem places_0_0 (d s : Int) (w : World) (hwd : wideS d = 0) (hws : wideS s = 0) (d1 : d < 1 ∨ 16 < d) (s1 : s < 1 ∨ 16 < s) : Calls Tryz.prog 194 #[.int .i64 d, .int .i64 s] w (RHead w (placesS d s)) := by
  have hnd := numS_range d
  have hns := numS_range s
  have MM := Lib.hid (MMs.of d s)
  unfold MMs at MM
  have HWD := Lib.hid hwd; have HWS := Lib.hid hws
  clear hwd hws
  have e1 : (d == 1) = false := by simp; omega
  have e9 : (d == 9) = false := by simp; omega
  have g1 : (s == 1) = false := by simp; omega
  have g9 : (s == 9) = false := by simp; omega
  go_enter Tryz.func194, Tryz.ntmps194
  go_wp2_with (first
    | (go_at_call 191; ((with_reducible refine (wide_any _ _).mono ?_); (first | rw [HWD.out] | rw [HWS.out] | rw [show wideS 1 = 8 from rfl] | rw [show wideS 9 = 16 from rfl] | rw [show wideS 17 = 0 from rfl] | rw [show wideS 18 = 0 from rfl] | rw [show wideS 19 = 0 from rfl] | rw [show wideS 20 = 0 from rfl]); rintro e w' ⟨rfl, rfl⟩))
    | (go_at_call 193; ((with_reducible refine (num_any _ (by omega) (by omega) _).mono ?_); rintro e w' ⟨rfl, rfl⟩))
    | (go_at_call 195; ((with_reducible refine (mem_any _ _ (by omega) (by omega) _).mono ?_); rintro e w' ⟨rfl, rfl⟩))
    | (go_at_call 159; ((with_reducible refine (of159_any _ _ _ _ _).mono ?_); rintro e w1 ⟨rfl, hx1⟩; have B0 := ((Blk.new w #[.slice none 0 0, .int .i64 0] 137).alloc _).ext hx1; have k0 := B0.cell; have f0 := B0.frozen)))
  all_goals first
    | (refine bodyPost_ret (res1 rfl _ _ _ w.heap.size _ rfl (load137 ((B0.put 0 _).put 1 _))) rfl (head_end2 (w.alloc (.cells #[.slice none 0 0, .int .i64 0] 137)) _ _ ?_ ?_ ?_ ((Ext.refl w).alloc _) (by simp) (by simp) hx1) <;> clear hx1 B0 k0 f0
       · simp only [beq_iff_eq, beq_eq_false_iff_ne, bne_iff_ne, bne_eq_false_iff_eq] at *
         subst_vars
         unfold placesS
         rw [HWD.out, HWS.out]
         repeat (first | rw [if_pos (by omega)] | rw [if_neg (by omega)])
       · have M := MM.out
         omega
       · have M := MM.out
         omega)
    | (refine bodyPost_ret (res1 rfl _ _ _ w.heap.size _ rfl (load137 ((B0.put 0 _).put 1 _))) rfl (head_end1 (w.alloc (.cells #[.slice none 0 0, .int .i64 0] 137)) _ _ ?_ ?_ ((Ext.refl w).alloc _) (by simp) (by simp) hx1) <;> clear hx1 B0 k0 f0
       · simp only [beq_iff_eq, beq_eq_false_iff_ne, bne_iff_ne, bne_eq_false_iff_eq] at *
         subst_vars
         unfold placesS
         rw [HWD.out, HWS.out]
         repeat (first | rw [if_pos (by omega)] | rw [if_neg (by omega)])
       · have M := MM.out
         subst_vars
         omega)
    | (refine bodyPost_ret (res1 rfl _ _ _ w.heap.size _ rfl (load137 (c0 := .slice none 0 0) (c1 := .int .i64 0) (Blk.new w _ 137))) rfl (RHead.mk (l := []) (n := 0) (t := 0) ?_ rfl (Byts.nil _) ((Ext.refl _).alloc _))
       simp only [beq_iff_eq, beq_eq_false_iff_ne, bne_iff_ne, bne_eq_false_iff_eq] at *
       subst_vars
       unfold placesS
       rw [HWD.out, HWS.out]
       repeat (first | rw [if_pos (by omega)] | rw [if_neg (by omega)]))
theorem places_any (d s : Int) (w : World) : Calls Tryz.prog 194 #[.int .i64 d, .int .i64 s] w (RHead w (placesS d s)) := by
  rcases wideS_range d with ⟨hd, d1, d2⟩ | ⟨hd, d1, d2⟩ | ⟨hd, d1⟩ <;> rcases wideS_range s with ⟨hs, s1, s2⟩ | ⟨hs, s1, s2⟩ | ⟨hs, s1⟩
  · exact places_8_8 d s w hd hs d1 d2 s1 s2
  · exact places_8_16 d s w hd hs d1 d2 s1 s2
  · exact places_8_0 d s w hd hs d1 d2 s1
  · exact places_16_8 d s w hd hs d1 d2 s1 s2
  · exact places_16_16 d s w hd hs d1 d2 s1 s2
  · exact places_16_0 d s w hd hs d1 d2 s1
  · exact places_0_8 d s w hd hs d1 s1 s2
  · exact places_0_16 d s w hd hs d1 s1 s2
  · exact places_0_0 d s w hd hs d1 s1
end Go.Proofs.YtnklmehphmidhaaGreatDoor
