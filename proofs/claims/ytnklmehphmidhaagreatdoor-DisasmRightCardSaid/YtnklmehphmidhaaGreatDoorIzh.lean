/- isa86: what stands at the begin of some bytes. -/
import Derived.Test.YtnklmehphmidhaaGreatDoorIzg
import Derived.Test.YtnklmehphmidhaaGreatDoorIzc
namespace Go.Proofs.YtnklmehphmidhaaGreatDoor
open Go.RowKit
set_option maxRecDepth 100000
set_option maxHeartbeats 4000000
set_option linter.unusedSimpArgs false
set_option linter.unusedVariables false

/-- The head that a second byte leads to. -/
def hdS (b : List Int) (m : Int) : List Int × Int := headsS (guessS (b.getD 0 0) m).1 (guessS (b.getD 0 0) m).2.1 (guessS (b.getD 0 0) m).2.2
def hitN (b : List Int) (l : List Int) (m : Int) : Bool :=
  !((min l.length b.length : Nat) == 0) && (l.take (min l.length b.length) == b.take (min l.length b.length)) && !(l.length == 2 && l.getD 1 0 != m)
def valS (b : List Int) (n : Nat) (t : Int) : Int :=
  if t = 1 then b.getD n 0 else if t = 3 then (if b.getD n 0 < 128 then b.getD n 0 else b.getD n 0 + 65280) else if t = 2 then b.getD n 0 + b.getD (n + 1) 0 * 256 else 0
structure R86 where
  op : Int
  d : Int
  s : Int
  n : Int
  size : Int
  kind : Int
def takeS (b : List Int) (m : Int) : R86 :=
  if (b.length : Int) < hsizeS (hdS b m).1.length (hdS b m).2 then ⟨0, 0, 0, 0, 0, 2⟩
  else ⟨(guessS (b.getD 0 0) m).1, (guessS (b.getD 0 0) m).2.1, (guessS (b.getD 0 0) m).2.2, valS b (hdS b m).1.length (hdS b m).2, hsizeS (hdS b m).1.length (hdS b m).2, 0⟩
def scanS (b : List Int) : List Int → R86
  | [] => ⟨0, 0, 0, 0, 0, 12⟩
  | m :: r => if hitN b (hdS b m).1 m = true then takeS b m else scanS b r
def secsS (b : List Int) : List Int := if 1 < b.length then [b.getD 1 0] else (List.range 256).map Int.ofNat
def read86S (b : List Int) : R86 := if b.length = 0 then ⟨0, 0, 0, 0, 0, 2⟩ else scanS b (secsS b)

def RRead (w : World) (r : R86) : Ending → World → Prop := fun e w' => e = .returned (.tuple #[.agg #[.int .i64 r.op, .int .i64 r.d, .int .i64 r.s, .int .u16 r.n], .int .i64 r.size, .int .i64 r.kind]) ∧ Ext w w'

theorem read86_nil (v : Value) (w : World) (b : List Int) (hb : Byts w v b) (h0 : b.length = 0) : Calls Tryz.prog 70 #[v] w (RRead w (read86S b)) := by
  have hr : Hid (read86S b = ⟨0, 0, 0, 0, 0, 2⟩) := Lib.hid (by unfold read86S; rw [if_pos h0])
  obtain ⟨A, c, rfl, h1, h2, h3, h4⟩ := hb
  rw [h0]
  clear h4 h3 h1 h0
  go_enter Tryz.func70, Tryz.ntmps70
  go_wp2
  refine bodyPost_ret (v := .tuple #[.agg #[.int .i64 0, .int .i64 0, .int .i64 0, .int .u16 0], .int .i64 0, .int .i64 2]) (by have k := (Blk.new w #[.int .i64 0, .int .i64 0, .int .i64 0, .int .u16 0] 101).cell; simp (maxDischargeDepth := 9) [results, Tryz.results70, go_sem, k]) rfl ⟨?_, (Ext.refl _).alloc _⟩
  rw [hr.out]
theorem guessS_op (a m : Int) (h0 : 0 ≤ a) (h1 : a ≤ 255) (h2 : 0 ≤ m) (h3 : m ≤ 255) : 0 ≤ (guessS a m).1 ∧ (guessS a m).1 ≤ 255 := by
  have hi : ∀ x, -1 ≤ idxI aloneL x ∧ idxI aloneL x ≤ 9 := by
    intro x
    unfold idxI
    split
    · rename_i i hi
      have := (List.findIdx?_eq_some_iff_getElem.mp hi).1
      simp [aloneL] at this
      omega
    · omega
  have h := hi a
  have hA : 0 ≤ (aloneS a).1 ∧ (aloneS a).1 ≤ 255 := by
    unfold aloneS
    simp only [apply_ite Prod.fst]
    repeat' split
    all_goals omega
  have hM : ∀ x y, (movedS a m x y).1 = 1 := by
    intro x y
    unfold movedS
    simp only [apply_ite Prod.fst]
    split <;> rfl
  unfold guessS
  simp only [apply_ite Prod.fst, hM]
  repeat' split
  all_goals omega

theorem cell_put4 {W : World} {x y j : Nat} {v a b c d : Value} (h : W.cell? ⟨x, j, none⟩ = some v) (hne : x ≠ y) :
    ((((W.setCell ⟨y, 0, none⟩ a).setCell ⟨y, 1, none⟩ b).setCell ⟨y, 2, none⟩ c).setCell ⟨y, 3, none⟩ d).cell? ⟨x, j, none⟩ = some v := by
  have ne : ∀ k : Nat, (⟨y, k, none⟩ : Addr) ≠ ⟨x, j, none⟩ := fun k e => hne (by injection e with e; exact e.symm)
  rw [World.cell?_setCell_other _ _ _ _ (by first | exact ne _ | exact (ne _).symm), World.cell?_setCell_other _ _ _ _ (by first | exact ne _ | exact (ne _).symm), World.cell?_setCell_other _ _ _ _ (by first | exact ne _ | exact (ne _).symm), World.cell?_setCell_other _ _ _ _ (by first | exact ne _ | exact (ne _).symm)]
  exact h
theorem one1S_len (op d : Int) : (one1S op d).1.length ≤ 2 := by
  unfold one1S
  repeat' split
  all_goals simp
theorem placesS_len (d s : Int) : (placesS d s).1.length ≤ 2 := by
  unfold placesS
  repeat' split
  all_goals simp
theorem twoS_len (op d s : Int) : (twoS op d s).1.length ≤ 2 := by
  have := placesS_len d s
  unfold twoS
  repeat' split
  all_goals first | assumption | simp
theorem headsS_len (op d s : Int) : (headsS op d s).1.length ≤ 2 := by
  have h1 := twoS_len op d s
  have h2 := one1S_len op d
  unfold headsS
  repeat' split
  all_goals first | assumption | simp
theorem short_cases {l : List Int} (h : l.length ≤ 2) : l = [] ∨ (∃ x, l = [x]) ∨ ∃ x y, l = [x, y] := by
  match l, h with
  | [], _ => exact .inl rfl
  | [x], _ => exact .inr (.inl ⟨x, rfl⟩)
  | [x, y], _ => exact .inr (.inr ⟨x, y, rfl⟩)

theorem Byts.take {w : World} {A : Option Addr} {n c : Nat} {l : List Int} (h : Byts w (.slice A n c) l) {k : Nat} (hk : k ≤ l.length) : Byts w (.slice A k c) (l.take k) := by
  obtain ⟨A', c', hv, h1, h2, h3, h4⟩ := h
  injection hv with e1 e2 e3
  subst e1; subst e3
  have hl : (l.take k).length = k := by simp; omega
  refine ⟨A, c, by rw [hl], by omega, h2, fun x hx => h3 x (List.mem_of_mem_take hx), fun hp => ?_⟩
  obtain ⟨b, o, rfl, hb, hc⟩ := h4 (by omega)
  refine ⟨b, o, rfl, hb, fun j hj => ?_⟩
  rw [hc j (by omega)]
  simp [List.getElem?_take, show j < k by omega]

theorem wrap8p (z : Int) (h0 : 0 ≤ z) (h1 : z ≤ 255) (h : z < 128) : IntKind.u16.wrap (IntKind.i8.wrap z) = z := by
  simp [IntKind.wrap, IntKind.signed, IntKind.bits]
  repeat' split
  all_goals omega
theorem wrap8n (z : Int) (h0 : 0 ≤ z) (h1 : z ≤ 255) (h : 128 ≤ z) : IntKind.u16.wrap (IntKind.i8.wrap z) = z + 65280 := by
  simp [IntKind.wrap, IntKind.signed, IntKind.bits]
  repeat' split
  all_goals omega
theorem bor8r (x y : Int) (h0 : 0 ≤ x) (h1 : x ≤ 255) (h2 : 0 ≤ y) (h3 : y ≤ 255) : bits .or .u16 x (y * 256) = x + y * 256 := by
  rw [u16_or _ _ h0 (by omega) (by omega) (by omega), Nat.or_comm, nat_join 8 _ _ (by omega) (by omega)]
  omega

theorem read86_hit11 (v : Value) (w : World) (b : List Int) (hb : Byts w v b) (h0 : 1 < b.length) (x0 x1 op d s t : Int) (hx0 : b.getD 0 0 = x0) (hx1 : b.getD 1 0 = x1) (hG : guessS x0 x1 = (op, d, s)) (ht : t = 1) (hH : headsS op d s = ([x0], t)) (hsz : 2 ≤ b.length) (z : Int) (hzz : b.getD 1 0 = z) : Calls Tryz.prog 70 #[v] w (RRead w ⟨op, d, s, z, 2, 0⟩) := by
  have HB := Lib.hid hb
  obtain ⟨A, c, rfl, h1, h2, h3, h4⟩ := hb
  obtain ⟨g, o, rfl, hlt, hc⟩ := h4 (by omega)
  have hc1 := hc 1 (by omega)
  have hc0 := hc 0 (by omega)
  simp only [Nat.add_zero] at hc0
  have r0 := getD_range h3 0
  have r1 := getD_range h3 1
  have hR := Lib.hid h3
  have HC := Lib.hid hc
  have hop := guessS_op x0 x1 (hx0 ▸ r0).1 (hx0 ▸ r0).2 (hx1 ▸ r1).1 (hx1 ▸ r1).2
  rw [hG] at hop
  simp only at hop
  have HG := Lib.hid hG; have HH := Lib.hid hH
  clear hG hH
  rw [hx0] at hc0 r0; rw [hx1] at hc1 r1
  have HX0 := Lib.hid hx0; have HX1 := Lib.hid hx1
  clear hx0 hx1 hc h3 h4
  generalize hL : b.length = L at *
  have HL := Lib.hid hL; clear hL
  have hz : ((L : Int) == 0) = false := by simp; omega
  have hz1 : (1 : Int) < (L : Int) := by omega
  subst ht
  have HSZ : Hid (hsizeS ((1 : Nat) : Int) 1 = 2) := Lib.hid rfl
  have rz := getD_range hR.out 1
  rw [hzz] at rz
  have HZ := Lib.hid hzz; clear hzz
  have HE : Hid (([x0].take 1 == b.take 1) = true) := Lib.hid (by
    have h1 := HX0.out; have h2 := HX1.out; have h3 := HL.out
    match b, h3 with
    | y0 :: y1 :: r, _ =>
      simp at h1 h2
      simp [h1, h2]
    | [y0], h3 => simp at h3; omega
    | [], h3 => simp at h3; omega)
  have hszL : (2 : Int) ≤ (L : Int) := by omega
  have hszc : (2 : Int) ≤ (c : Int) := by omega
  have hnls : ¬ (L : Int) < 2 := by omega
  go_enter Tryz.func70, Tryz.ntmps70
  go_wp2
  go_loopw [41] (fun i wr => i = .int .i64 0 ∧ Ext ((w.alloc (.cells #[.int .i64 0, .int .i64 0, .int .i64 0, .int .u16 0] 101)).alloc (.cells #[.int .u8 x1] 5)) wr) (fun i _ => 0)
  case atStart => exact ⟨rfl, Ext.refl _⟩
  case round =>
    obtain ⟨rfl, E⟩ := hrel
    have BR := ((Blk.new w _ 101).alloc (.cells #[.int .u8 x1] 5)).ext E
    have E0 := (((Ext.refl w).alloc (.cells #[.int .i64 0, .int .i64 0, .int .i64 0, .int .u16 0] 101)).alloc (.cells #[.int .u8 x1] 5)).trans E
    have ka := E.cell (p := ⟨w.heap.size + 1, 0, none⟩) (v := .int .u8 x1) (by simp)
    have kb0 := E0.cell hc0
    have hmin : min (1 : Int) (L : Int) = 1 := by omega
    go_wp2_with (first
      | (go_at_call 114; ((with_reducible refine (guess_any x0 x1 r0.1 r0.2 r1.1 r1.2 _).mono ?_); rw [HG.out]; rintro e w1 ⟨rfl, hx1⟩))
      | (go_at_call 115; ((with_reducible refine (heads_any op d s hop.1 hop.2 _).mono ?_); rw [HH.out]; rintro e w2 ⟨A2, c2, rfl, hby2, hx2⟩; have E2 := E0.trans (hx1.trans hx2); have B2 := Blk.new w2 #[.slice A2 1 c2, .int .i64 1] 137)))
    have HBY := Lib.hid hby2
    obtain ⟨A2', c2', hv2, hcc2, hcc2', hrr2, hcell2⟩ := hby2
    obtain ⟨b2, o2, hA2, hlt2, hce2⟩ := hcell2 (by simp)
    injection hv2 with e1 e2 e3
    subst e1 e3 hA2
    have kh1 := (((Ext.refl w2).alloc (.cells #[.slice (some ⟨b2, o2, none⟩) 1 c2, .int .i64 1] 137)).cell (hce2 (1 - 1) (by simp)))
    simp at kh1
    have q1 : (1 : Int) ≤ (c2 : Int) := by simp at hcc2; omega
    have q2 : (1 : Int) ≤ (c : Int) := by omega
    clear hcell2 hce2 hcc2 hcc2' e2 hrr2
    have H116 : ∀ n, Calls Tryz.prog 116 #[.slice (some ⟨b2, o2, none⟩) 1 c2, .slice (some ⟨g, o, none⟩) 1 c] ((w2.alloc (.cells #[.slice (some ⟨b2, o2, none⟩) 1 c2, .int .i64 1] 137)).drewN n) fun e w' => e = .returned (.bool true) ∧ ∃ m, w' = (w2.alloc (.cells #[.slice (some ⟨b2, o2, none⟩) 1 c2, .int .i64 1] 137)).drewN m := fun n => by
      refine Calls.quiet_of ?_
      have hh := equal116_any ([x0].take 1) (b.take 1) _ _ ((w2.alloc (.cells #[.slice (some ⟨b2, o2, none⟩) 1 c2, .int .i64 1] 137)).drewN n) (((HBY.out.take (by simp)).ext ((Ext.refl w2).alloc _)).ext ((Ext.refl _).drewN n)) (((HB.out.take (by rw [HL.out]; omega)).ext (E2.alloc _)).ext ((Ext.refl _).drewN n)) (by simp) (by simp; omega)
      refine hh.mono ?_
      rintro e w' ⟨rfl, hm⟩
      exact ⟨by rw [HE.out], hm⟩
    go_quiet ((go_at_call 116; exact H116 _))
    go_wp2_with (go_at_call 117; ((with_reducible refine (hsize_any 1 _ 1 c2 (by omega) _).mono ?_); rw [HSZ.out]; rintro e w3 ⟨rfl, hx3⟩; have B3 := (B2.drewN nq).ext hx3; have k3 := B3.cell; have R3 := ((((BR.ext hx1).ext hx2).alloc (.cells #[.slice (some ⟨b2, o2, none⟩) 1 c2, .int .i64 1] 137)).drewN nq).ext hx3; have kr := R3.cell; have fr := R3.frozen; have E3 := ((E2.alloc (.cells #[.slice (some ⟨b2, o2, none⟩) 1 c2, .int .i64 1] 137)).drewN nq).trans hx3))
    have hcne : ¬ c = 1 := by omega
    go_region_held3 (fun W => W.cell? ⟨w2.heap.size, 0, none⟩ = some (.slice (some ⟨b2, o2, none⟩) 1 c2) ∧ W.cell? ⟨w2.heap.size, 1, none⟩ = some (.int .i64 1)) (first | go_keep | (with_reducible exact ⟨hxa.cell (And.left ‹_ ∧ _›), hxa.cell (And.right ‹_ ∧ _›)⟩))
      (first
       | (go_at_call 117; ((with_reducible refine (hsize_any 1 _ 1 c2 (by omega) _).mono ?_); rw [HSZ.out]; rintro e w4 ⟨rfl, hxa⟩; have hx4 := hxa)))
    have B4 := ((Blk.new w3 #[.int .i64 op, .int .i64 d, .int .i64 s, .int .u16 0] 101).drew).ext hx4
    have B42 := ((B3.alloc (.cells #[.int .i64 op, .int .i64 d, .int .i64 s, .int .u16 0] 101)).drew).ext hx4
    have R4 := ((R3.alloc (.cells #[.int .i64 op, .int .i64 d, .int .i64 s, .int .u16 0] 101)).drew).ext hx4
    have E4 := ((E3.alloc (.cells #[.int .i64 op, .int .i64 d, .int .i64 s, .int .u16 0] 101)).drew).trans hx4
    have kz4 := E4.cell (HC.out 1 (by omega))
    rw [HZ.out] at kz4
    have k40 := B4.cell
    have f40 := B4.frozen
    have k42 := B42.cell
    go_wp2
    have lt3 := B3.lt
    have ltr := R3.lt
    have Bp := (B4.put 3 (.int .u16 z))
    have kp := Bp.cell
    have Bq := (B42.other (a := ⟨w3.heap.size, 3, none⟩) (by simp only [ne_eq]; omega) (.int .u16 z))
    have kq := Bq.cell
    have Rq := (R4.other (a := ⟨w3.heap.size, 3, none⟩) (by simp only [ne_eq]; omega) (.int .u16 z))
    have Eq := (E4.setCell (show w.heap.size ≤ (⟨w3.heap.size, 3, none⟩ : Addr).block from by simp only; omega) (.int .u16 z))
    have ne3 : w3.heap.size ≠ w.heap.size := by omega
    have ne2 : w2.heap.size ≠ w.heap.size := by have := ((BR.ext hx1).ext hx2).lt; omega
    clear k40 f40 k42 k3 kr fr
    go_region_held3 (fun W => W.cell? ⟨w3.heap.size, 0, none⟩ = some (.int .i64 op) ∧ W.cell? ⟨w3.heap.size, 1, none⟩ = some (.int .i64 d) ∧ W.cell? ⟨w3.heap.size, 2, none⟩ = some (.int .i64 s) ∧ W.cell? ⟨w3.heap.size, 3, none⟩ = some (.int .u16 z) ∧ W.cell? ⟨w2.heap.size, 0, none⟩ = some (.slice (some ⟨b2, o2, none⟩) 1 c2) ∧ W.cell? ⟨w2.heap.size, 1, none⟩ = some (.int .i64 1))
      (first | exact ⟨kp 0, kp 1, kp 2, kp 3, kq 0, kq 1⟩ | go_keep | (with_reducible exact ⟨hxb.cell (And.left ‹_ ∧ _›), hxb.cell (And.left (And.right ‹_ ∧ _›)), hxb.cell (And.left (And.right (And.right ‹_ ∧ _›))), hxb.cell (And.left (And.right (And.right (And.right ‹_ ∧ _›)))), hxb.cell (And.left (And.right (And.right (And.right (And.right ‹_ ∧ _›))))), hxb.cell (And.right (And.right (And.right (And.right (And.right ‹_ ∧ _›)))))⟩) | (with_reducible exact ⟨cell_put4 (And.left ‹_ ∧ _›) ne3, cell_put4 (And.left (And.right ‹_ ∧ _›)) ne3, cell_put4 (And.left (And.right (And.right ‹_ ∧ _›))) ne3, cell_put4 (And.left (And.right (And.right (And.right ‹_ ∧ _›)))) ne3, cell_put4 (And.left (And.right (And.right (And.right (And.right ‹_ ∧ _›))))) ne2, cell_put4 (And.right (And.right (And.right (And.right (And.right ‹_ ∧ _›))))) ne2⟩))
      (first
       | (go_at_call 117; ((with_reducible refine (hsize_any 1 _ 1 c2 (by omega) _).mono ?_); rw [HSZ.out]; rintro e w5 ⟨rfl, hxb⟩; have hx5 := hxb; have R5 := (Rq.drew).ext hx5; have k5 := R5.cell; have f5 := R5.frozen)))
    go_wp2
    have Rf := ((((R5.put 0 (.int .i64 op)).put 1 (.int .i64 d)).put 2 (.int .i64 s)).put 3 (.int .u16 z))
    have kf := Rf.cell
    have Ef := ((((Eq.drew.trans hx5).setCell (Nat.le_refl _) (p := ⟨w.heap.size, 0, none⟩) (.int .i64 op)).setCell (Nat.le_refl _) (p := ⟨w.heap.size, 1, none⟩) (.int .i64 d)).setCell (Nat.le_refl _) (p := ⟨w.heap.size, 2, none⟩) (.int .i64 s)).setCell (Nat.le_refl _) (p := ⟨w.heap.size, 3, none⟩) (.int .u16 z)
    refine bodyPost_ret (v := .tuple #[.agg #[.int .i64 op, .int .i64 d, .int .i64 s, .int .u16 z], .int .i64 2, .int .i64 0]) (by simp (maxDischargeDepth := 9) [results, Tryz.results70, go_sem, kf]) rfl ⟨rfl, Ef⟩
theorem read86_hit12 (v : Value) (w : World) (b : List Int) (hb : Byts w v b) (h0 : 1 < b.length) (x0 x1 op d s t : Int) (hx0 : b.getD 0 0 = x0) (hx1 : b.getD 1 0 = x1) (hG : guessS x0 x1 = (op, d, s)) (ht : t = 2) (hH : headsS op d s = ([x0], t)) (hsz : 3 ≤ b.length) (z : Int) (hzz : b.getD 1 0 = z) (z2 : Int) (hzz2 : b.getD (1 + 1) 0 = z2) : Calls Tryz.prog 70 #[v] w (RRead w ⟨op, d, s, (z + z2 * 256), 3, 0⟩) := by
  have HB := Lib.hid hb
  obtain ⟨A, c, rfl, h1, h2, h3, h4⟩ := hb
  obtain ⟨g, o, rfl, hlt, hc⟩ := h4 (by omega)
  have hc1 := hc 1 (by omega)
  have hc0 := hc 0 (by omega)
  simp only [Nat.add_zero] at hc0
  have r0 := getD_range h3 0
  have r1 := getD_range h3 1
  have hR := Lib.hid h3
  have HC := Lib.hid hc
  have hop := guessS_op x0 x1 (hx0 ▸ r0).1 (hx0 ▸ r0).2 (hx1 ▸ r1).1 (hx1 ▸ r1).2
  rw [hG] at hop
  simp only at hop
  have HG := Lib.hid hG; have HH := Lib.hid hH
  clear hG hH
  rw [hx0] at hc0 r0; rw [hx1] at hc1 r1
  have HX0 := Lib.hid hx0; have HX1 := Lib.hid hx1
  clear hx0 hx1 hc h3 h4
  generalize hL : b.length = L at *
  have HL := Lib.hid hL; clear hL
  have hz : ((L : Int) == 0) = false := by simp; omega
  have hz1 : (1 : Int) < (L : Int) := by omega
  subst ht
  have HSZ : Hid (hsizeS ((1 : Nat) : Int) 2 = 3) := Lib.hid rfl
  have rz := getD_range hR.out 1
  rw [hzz] at rz
  have HZ := Lib.hid hzz; clear hzz
  have rz2 := getD_range hR.out (1 + 1)
  rw [hzz2] at rz2
  have HZ2 := Lib.hid hzz2; clear hzz2
  have HE : Hid (([x0].take 1 == b.take 1) = true) := Lib.hid (by
    have h1 := HX0.out; have h2 := HX1.out; have h3 := HL.out
    match b, h3 with
    | y0 :: y1 :: r, _ =>
      simp at h1 h2
      simp [h1, h2]
    | [y0], h3 => simp at h3; omega
    | [], h3 => simp at h3; omega)
  have hszL : (3 : Int) ≤ (L : Int) := by omega
  have hszc : (3 : Int) ≤ (c : Int) := by omega
  have hnls : ¬ (L : Int) < 3 := by omega
  go_enter Tryz.func70, Tryz.ntmps70
  go_wp2
  go_loopw [41] (fun i wr => i = .int .i64 0 ∧ Ext ((w.alloc (.cells #[.int .i64 0, .int .i64 0, .int .i64 0, .int .u16 0] 101)).alloc (.cells #[.int .u8 x1] 5)) wr) (fun i _ => 0)
  case atStart => exact ⟨rfl, Ext.refl _⟩
  case round =>
    obtain ⟨rfl, E⟩ := hrel
    have BR := ((Blk.new w _ 101).alloc (.cells #[.int .u8 x1] 5)).ext E
    have E0 := (((Ext.refl w).alloc (.cells #[.int .i64 0, .int .i64 0, .int .i64 0, .int .u16 0] 101)).alloc (.cells #[.int .u8 x1] 5)).trans E
    have ka := E.cell (p := ⟨w.heap.size + 1, 0, none⟩) (v := .int .u8 x1) (by simp)
    have kb0 := E0.cell hc0
    have hmin : min (1 : Int) (L : Int) = 1 := by omega
    go_wp2_with (first
      | (go_at_call 114; ((with_reducible refine (guess_any x0 x1 r0.1 r0.2 r1.1 r1.2 _).mono ?_); rw [HG.out]; rintro e w1 ⟨rfl, hx1⟩))
      | (go_at_call 115; ((with_reducible refine (heads_any op d s hop.1 hop.2 _).mono ?_); rw [HH.out]; rintro e w2 ⟨A2, c2, rfl, hby2, hx2⟩; have E2 := E0.trans (hx1.trans hx2); have B2 := Blk.new w2 #[.slice A2 1 c2, .int .i64 2] 137)))
    have HBY := Lib.hid hby2
    obtain ⟨A2', c2', hv2, hcc2, hcc2', hrr2, hcell2⟩ := hby2
    obtain ⟨b2, o2, hA2, hlt2, hce2⟩ := hcell2 (by simp)
    injection hv2 with e1 e2 e3
    subst e1 e3 hA2
    have kh1 := (((Ext.refl w2).alloc (.cells #[.slice (some ⟨b2, o2, none⟩) 1 c2, .int .i64 2] 137)).cell (hce2 (1 - 1) (by simp)))
    simp at kh1
    have q1 : (1 : Int) ≤ (c2 : Int) := by simp at hcc2; omega
    have q2 : (1 : Int) ≤ (c : Int) := by omega
    clear hcell2 hce2 hcc2 hcc2' e2 hrr2
    have H116 : ∀ n, Calls Tryz.prog 116 #[.slice (some ⟨b2, o2, none⟩) 1 c2, .slice (some ⟨g, o, none⟩) 1 c] ((w2.alloc (.cells #[.slice (some ⟨b2, o2, none⟩) 1 c2, .int .i64 2] 137)).drewN n) fun e w' => e = .returned (.bool true) ∧ ∃ m, w' = (w2.alloc (.cells #[.slice (some ⟨b2, o2, none⟩) 1 c2, .int .i64 2] 137)).drewN m := fun n => by
      refine Calls.quiet_of ?_
      have hh := equal116_any ([x0].take 1) (b.take 1) _ _ ((w2.alloc (.cells #[.slice (some ⟨b2, o2, none⟩) 1 c2, .int .i64 2] 137)).drewN n) (((HBY.out.take (by simp)).ext ((Ext.refl w2).alloc _)).ext ((Ext.refl _).drewN n)) (((HB.out.take (by rw [HL.out]; omega)).ext (E2.alloc _)).ext ((Ext.refl _).drewN n)) (by simp) (by simp; omega)
      refine hh.mono ?_
      rintro e w' ⟨rfl, hm⟩
      exact ⟨by rw [HE.out], hm⟩
    go_quiet ((go_at_call 116; exact H116 _))
    go_wp2_with (go_at_call 117; ((with_reducible refine (hsize_any 2 _ 1 c2 (by omega) _).mono ?_); rw [HSZ.out]; rintro e w3 ⟨rfl, hx3⟩; have B3 := (B2.drewN nq).ext hx3; have k3 := B3.cell; have R3 := ((((BR.ext hx1).ext hx2).alloc (.cells #[.slice (some ⟨b2, o2, none⟩) 1 c2, .int .i64 2] 137)).drewN nq).ext hx3; have kr := R3.cell; have fr := R3.frozen; have E3 := ((E2.alloc (.cells #[.slice (some ⟨b2, o2, none⟩) 1 c2, .int .i64 2] 137)).drewN nq).trans hx3))
    have hcne : ¬ c = 1 := by omega
    go_region_held3 (fun W => W.cell? ⟨w2.heap.size, 0, none⟩ = some (.slice (some ⟨b2, o2, none⟩) 1 c2) ∧ W.cell? ⟨w2.heap.size, 1, none⟩ = some (.int .i64 2)) (first | go_keep | (with_reducible exact ⟨hxa.cell (And.left ‹_ ∧ _›), hxa.cell (And.right ‹_ ∧ _›)⟩))
      (first
       | (go_at_call 117; ((with_reducible refine (hsize_any 2 _ 1 c2 (by omega) _).mono ?_); rw [HSZ.out]; rintro e w4 ⟨rfl, hxa⟩; have hx4 := hxa)))
    have B4 := ((Blk.new w3 #[.int .i64 op, .int .i64 d, .int .i64 s, .int .u16 0] 101).drew).ext hx4
    have B42 := ((B3.alloc (.cells #[.int .i64 op, .int .i64 d, .int .i64 s, .int .u16 0] 101)).drew).ext hx4
    have R4 := ((R3.alloc (.cells #[.int .i64 op, .int .i64 d, .int .i64 s, .int .u16 0] 101)).drew).ext hx4
    have E4 := ((E3.alloc (.cells #[.int .i64 op, .int .i64 d, .int .i64 s, .int .u16 0] 101)).drew).trans hx4
    have kz4 := E4.cell (HC.out 1 (by omega))
    rw [HZ.out] at kz4
    have kz5 := E4.cell (HC.out (1 + 1) (by omega))
    rw [HZ2.out] at kz5
    simp only [Nat.add_assoc, Nat.reduceAdd] at kz5
    have k40 := B4.cell
    have f40 := B4.frozen
    have k42 := B42.cell
    have hbo := bor8r z z2 rz.1 rz.2 rz2.1 rz2.2
    go_wp2
    go_still_tail 11, (by kernel_rfl)
    change wpList _ _ _ _ _ (World.drew _)
    go_wp2
    have HBO := Lib.hid hbo
    clear hbo
    have lt3 := B3.lt
    have ltr := R3.lt
    have Bp := (B4.put 3 (.int .u16 (bits .or .u16 z (z2 * 256)))).drew
    have kp := Bp.cell
    have Bq := (B42.other (a := ⟨w3.heap.size, 3, none⟩) (by simp only [ne_eq]; omega) (.int .u16 (bits .or .u16 z (z2 * 256)))).drew
    have kq := Bq.cell
    have Rq := (R4.other (a := ⟨w3.heap.size, 3, none⟩) (by simp only [ne_eq]; omega) (.int .u16 (bits .or .u16 z (z2 * 256)))).drew
    have Eq := (E4.setCell (show w.heap.size ≤ (⟨w3.heap.size, 3, none⟩ : Addr).block from by simp only; omega) (.int .u16 (bits .or .u16 z (z2 * 256)))).drew
    have ne3 : w3.heap.size ≠ w.heap.size := by omega
    have ne2 : w2.heap.size ≠ w.heap.size := by have := ((BR.ext hx1).ext hx2).lt; omega
    clear k40 f40 k42 k3 kr fr
    go_region_held3 (fun W => W.cell? ⟨w3.heap.size, 0, none⟩ = some (.int .i64 op) ∧ W.cell? ⟨w3.heap.size, 1, none⟩ = some (.int .i64 d) ∧ W.cell? ⟨w3.heap.size, 2, none⟩ = some (.int .i64 s) ∧ W.cell? ⟨w3.heap.size, 3, none⟩ = some (.int .u16 (bits .or .u16 z (z2 * 256))) ∧ W.cell? ⟨w2.heap.size, 0, none⟩ = some (.slice (some ⟨b2, o2, none⟩) 1 c2) ∧ W.cell? ⟨w2.heap.size, 1, none⟩ = some (.int .i64 2))
      (first | exact ⟨kp 0, kp 1, kp 2, kp 3, kq 0, kq 1⟩ | go_keep | (with_reducible exact ⟨hxb.cell (And.left ‹_ ∧ _›), hxb.cell (And.left (And.right ‹_ ∧ _›)), hxb.cell (And.left (And.right (And.right ‹_ ∧ _›))), hxb.cell (And.left (And.right (And.right (And.right ‹_ ∧ _›)))), hxb.cell (And.left (And.right (And.right (And.right (And.right ‹_ ∧ _›))))), hxb.cell (And.right (And.right (And.right (And.right (And.right ‹_ ∧ _›)))))⟩) | (with_reducible exact ⟨cell_put4 (And.left ‹_ ∧ _›) ne3, cell_put4 (And.left (And.right ‹_ ∧ _›)) ne3, cell_put4 (And.left (And.right (And.right ‹_ ∧ _›))) ne3, cell_put4 (And.left (And.right (And.right (And.right ‹_ ∧ _›)))) ne3, cell_put4 (And.left (And.right (And.right (And.right (And.right ‹_ ∧ _›))))) ne2, cell_put4 (And.right (And.right (And.right (And.right (And.right ‹_ ∧ _›))))) ne2⟩))
      (first
       | (go_at_call 117; ((with_reducible refine (hsize_any 2 _ 1 c2 (by omega) _).mono ?_); rw [HSZ.out]; rintro e w5 ⟨rfl, hxb⟩; have hx5 := hxb; have R5 := (Rq.drew).ext hx5; have k5 := R5.cell; have f5 := R5.frozen)))
    go_wp2
    have Rf := ((((R5.put 0 (.int .i64 op)).put 1 (.int .i64 d)).put 2 (.int .i64 s)).put 3 (.int .u16 (bits .or .u16 z (z2 * 256))))
    have kf := Rf.cell
    have Ef := ((((Eq.drew.trans hx5).setCell (Nat.le_refl _) (p := ⟨w.heap.size, 0, none⟩) (.int .i64 op)).setCell (Nat.le_refl _) (p := ⟨w.heap.size, 1, none⟩) (.int .i64 d)).setCell (Nat.le_refl _) (p := ⟨w.heap.size, 2, none⟩) (.int .i64 s)).setCell (Nat.le_refl _) (p := ⟨w.heap.size, 3, none⟩) (.int .u16 (bits .or .u16 z (z2 * 256)))
    refine bodyPost_ret (v := .tuple #[.agg #[.int .i64 op, .int .i64 d, .int .i64 s, .int .u16 (bits .or .u16 z (z2 * 256))], .int .i64 3, .int .i64 0]) (by simp (maxDischargeDepth := 9) [results, Tryz.results70, go_sem, kf]) rfl ⟨by rw [HBO.out], Ef⟩
theorem read86_hit13p (v : Value) (w : World) (b : List Int) (hb : Byts w v b) (h0 : 1 < b.length) (x0 x1 op d s t : Int) (hx0 : b.getD 0 0 = x0) (hx1 : b.getD 1 0 = x1) (hG : guessS x0 x1 = (op, d, s)) (ht : t = 3) (hH : headsS op d s = ([x0], t)) (hsz : 2 ≤ b.length) (z : Int) (hzz : b.getD 1 0 = z) (hneg : z < 128) : Calls Tryz.prog 70 #[v] w (RRead w ⟨op, d, s, z, 2, 0⟩) := by
  have HB := Lib.hid hb
  obtain ⟨A, c, rfl, h1, h2, h3, h4⟩ := hb
  obtain ⟨g, o, rfl, hlt, hc⟩ := h4 (by omega)
  have hc1 := hc 1 (by omega)
  have hc0 := hc 0 (by omega)
  simp only [Nat.add_zero] at hc0
  have r0 := getD_range h3 0
  have r1 := getD_range h3 1
  have hR := Lib.hid h3
  have HC := Lib.hid hc
  have hop := guessS_op x0 x1 (hx0 ▸ r0).1 (hx0 ▸ r0).2 (hx1 ▸ r1).1 (hx1 ▸ r1).2
  rw [hG] at hop
  simp only at hop
  have HG := Lib.hid hG; have HH := Lib.hid hH
  clear hG hH
  rw [hx0] at hc0 r0; rw [hx1] at hc1 r1
  have HX0 := Lib.hid hx0; have HX1 := Lib.hid hx1
  clear hx0 hx1 hc h3 h4
  generalize hL : b.length = L at *
  have HL := Lib.hid hL; clear hL
  have hz : ((L : Int) == 0) = false := by simp; omega
  have hz1 : (1 : Int) < (L : Int) := by omega
  subst ht
  have HSZ : Hid (hsizeS ((1 : Nat) : Int) 3 = 2) := Lib.hid rfl
  have rz := getD_range hR.out 1
  rw [hzz] at rz
  have HZ := Lib.hid hzz; clear hzz
  have HW8 : Hid (IntKind.u16.wrap (IntKind.i8.wrap z) = z) := Lib.hid (wrap8p z rz.1 rz.2 hneg)
  have HE : Hid (([x0].take 1 == b.take 1) = true) := Lib.hid (by
    have h1 := HX0.out; have h2 := HX1.out; have h3 := HL.out
    match b, h3 with
    | y0 :: y1 :: r, _ =>
      simp at h1 h2
      simp [h1, h2]
    | [y0], h3 => simp at h3; omega
    | [], h3 => simp at h3; omega)
  have hszL : (2 : Int) ≤ (L : Int) := by omega
  have hszc : (2 : Int) ≤ (c : Int) := by omega
  have hnls : ¬ (L : Int) < 2 := by omega
  go_enter Tryz.func70, Tryz.ntmps70
  go_wp2
  go_loopw [41] (fun i wr => i = .int .i64 0 ∧ Ext ((w.alloc (.cells #[.int .i64 0, .int .i64 0, .int .i64 0, .int .u16 0] 101)).alloc (.cells #[.int .u8 x1] 5)) wr) (fun i _ => 0)
  case atStart => exact ⟨rfl, Ext.refl _⟩
  case round =>
    obtain ⟨rfl, E⟩ := hrel
    have BR := ((Blk.new w _ 101).alloc (.cells #[.int .u8 x1] 5)).ext E
    have E0 := (((Ext.refl w).alloc (.cells #[.int .i64 0, .int .i64 0, .int .i64 0, .int .u16 0] 101)).alloc (.cells #[.int .u8 x1] 5)).trans E
    have ka := E.cell (p := ⟨w.heap.size + 1, 0, none⟩) (v := .int .u8 x1) (by simp)
    have kb0 := E0.cell hc0
    have hmin : min (1 : Int) (L : Int) = 1 := by omega
    go_wp2_with (first
      | (go_at_call 114; ((with_reducible refine (guess_any x0 x1 r0.1 r0.2 r1.1 r1.2 _).mono ?_); rw [HG.out]; rintro e w1 ⟨rfl, hx1⟩))
      | (go_at_call 115; ((with_reducible refine (heads_any op d s hop.1 hop.2 _).mono ?_); rw [HH.out]; rintro e w2 ⟨A2, c2, rfl, hby2, hx2⟩; have E2 := E0.trans (hx1.trans hx2); have B2 := Blk.new w2 #[.slice A2 1 c2, .int .i64 3] 137)))
    have HBY := Lib.hid hby2
    obtain ⟨A2', c2', hv2, hcc2, hcc2', hrr2, hcell2⟩ := hby2
    obtain ⟨b2, o2, hA2, hlt2, hce2⟩ := hcell2 (by simp)
    injection hv2 with e1 e2 e3
    subst e1 e3 hA2
    have kh1 := (((Ext.refl w2).alloc (.cells #[.slice (some ⟨b2, o2, none⟩) 1 c2, .int .i64 3] 137)).cell (hce2 (1 - 1) (by simp)))
    simp at kh1
    have q1 : (1 : Int) ≤ (c2 : Int) := by simp at hcc2; omega
    have q2 : (1 : Int) ≤ (c : Int) := by omega
    clear hcell2 hce2 hcc2 hcc2' e2 hrr2
    have H116 : ∀ n, Calls Tryz.prog 116 #[.slice (some ⟨b2, o2, none⟩) 1 c2, .slice (some ⟨g, o, none⟩) 1 c] ((w2.alloc (.cells #[.slice (some ⟨b2, o2, none⟩) 1 c2, .int .i64 3] 137)).drewN n) fun e w' => e = .returned (.bool true) ∧ ∃ m, w' = (w2.alloc (.cells #[.slice (some ⟨b2, o2, none⟩) 1 c2, .int .i64 3] 137)).drewN m := fun n => by
      refine Calls.quiet_of ?_
      have hh := equal116_any ([x0].take 1) (b.take 1) _ _ ((w2.alloc (.cells #[.slice (some ⟨b2, o2, none⟩) 1 c2, .int .i64 3] 137)).drewN n) (((HBY.out.take (by simp)).ext ((Ext.refl w2).alloc _)).ext ((Ext.refl _).drewN n)) (((HB.out.take (by rw [HL.out]; omega)).ext (E2.alloc _)).ext ((Ext.refl _).drewN n)) (by simp) (by simp; omega)
      refine hh.mono ?_
      rintro e w' ⟨rfl, hm⟩
      exact ⟨by rw [HE.out], hm⟩
    go_quiet ((go_at_call 116; exact H116 _))
    go_wp2_with (go_at_call 117; ((with_reducible refine (hsize_any 3 _ 1 c2 (by omega) _).mono ?_); rw [HSZ.out]; rintro e w3 ⟨rfl, hx3⟩; have B3 := (B2.drewN nq).ext hx3; have k3 := B3.cell; have R3 := ((((BR.ext hx1).ext hx2).alloc (.cells #[.slice (some ⟨b2, o2, none⟩) 1 c2, .int .i64 3] 137)).drewN nq).ext hx3; have kr := R3.cell; have fr := R3.frozen; have E3 := ((E2.alloc (.cells #[.slice (some ⟨b2, o2, none⟩) 1 c2, .int .i64 3] 137)).drewN nq).trans hx3))
    have hcne : ¬ c = 1 := by omega
    go_region_held3 (fun W => W.cell? ⟨w2.heap.size, 0, none⟩ = some (.slice (some ⟨b2, o2, none⟩) 1 c2) ∧ W.cell? ⟨w2.heap.size, 1, none⟩ = some (.int .i64 3)) (first | go_keep | (with_reducible exact ⟨hxa.cell (And.left ‹_ ∧ _›), hxa.cell (And.right ‹_ ∧ _›)⟩))
      (first
       | (go_at_call 117; ((with_reducible refine (hsize_any 3 _ 1 c2 (by omega) _).mono ?_); rw [HSZ.out]; rintro e w4 ⟨rfl, hxa⟩; have hx4 := hxa)))
    have B4 := ((Blk.new w3 #[.int .i64 op, .int .i64 d, .int .i64 s, .int .u16 0] 101).drew).ext hx4
    have B42 := ((B3.alloc (.cells #[.int .i64 op, .int .i64 d, .int .i64 s, .int .u16 0] 101)).drew).ext hx4
    have R4 := ((R3.alloc (.cells #[.int .i64 op, .int .i64 d, .int .i64 s, .int .u16 0] 101)).drew).ext hx4
    have E4 := ((E3.alloc (.cells #[.int .i64 op, .int .i64 d, .int .i64 s, .int .u16 0] 101)).drew).trans hx4
    have kz4 := E4.cell (HC.out 1 (by omega))
    rw [HZ.out] at kz4
    have k40 := B4.cell
    have f40 := B4.frozen
    have k42 := B42.cell
    go_wp2
    have lt3 := B3.lt
    have ltr := R3.lt
    have Bp := (B4.put 3 (.int .u16 z))
    have kp := Bp.cell
    have Bq := (B42.other (a := ⟨w3.heap.size, 3, none⟩) (by simp only [ne_eq]; omega) (.int .u16 z))
    have kq := Bq.cell
    have Rq := (R4.other (a := ⟨w3.heap.size, 3, none⟩) (by simp only [ne_eq]; omega) (.int .u16 z))
    have Eq := (E4.setCell (show w.heap.size ≤ (⟨w3.heap.size, 3, none⟩ : Addr).block from by simp only; omega) (.int .u16 z))
    have ne3 : w3.heap.size ≠ w.heap.size := by omega
    have ne2 : w2.heap.size ≠ w.heap.size := by have := ((BR.ext hx1).ext hx2).lt; omega
    clear k40 f40 k42 k3 kr fr
    go_region_held3 (fun W => W.cell? ⟨w3.heap.size, 0, none⟩ = some (.int .i64 op) ∧ W.cell? ⟨w3.heap.size, 1, none⟩ = some (.int .i64 d) ∧ W.cell? ⟨w3.heap.size, 2, none⟩ = some (.int .i64 s) ∧ W.cell? ⟨w3.heap.size, 3, none⟩ = some (.int .u16 z) ∧ W.cell? ⟨w2.heap.size, 0, none⟩ = some (.slice (some ⟨b2, o2, none⟩) 1 c2) ∧ W.cell? ⟨w2.heap.size, 1, none⟩ = some (.int .i64 3))
      (first | exact ⟨kp 0, kp 1, kp 2, kp 3, kq 0, kq 1⟩ | go_keep | (with_reducible exact ⟨hxb.cell (And.left ‹_ ∧ _›), hxb.cell (And.left (And.right ‹_ ∧ _›)), hxb.cell (And.left (And.right (And.right ‹_ ∧ _›))), hxb.cell (And.left (And.right (And.right (And.right ‹_ ∧ _›)))), hxb.cell (And.left (And.right (And.right (And.right (And.right ‹_ ∧ _›))))), hxb.cell (And.right (And.right (And.right (And.right (And.right ‹_ ∧ _›)))))⟩) | (with_reducible exact ⟨cell_put4 (And.left ‹_ ∧ _›) ne3, cell_put4 (And.left (And.right ‹_ ∧ _›)) ne3, cell_put4 (And.left (And.right (And.right ‹_ ∧ _›))) ne3, cell_put4 (And.left (And.right (And.right (And.right ‹_ ∧ _›)))) ne3, cell_put4 (And.left (And.right (And.right (And.right (And.right ‹_ ∧ _›))))) ne2, cell_put4 (And.right (And.right (And.right (And.right (And.right ‹_ ∧ _›))))) ne2⟩))
      (first
       | (go_at_call 117; ((with_reducible refine (hsize_any 3 _ 1 c2 (by omega) _).mono ?_); rw [HSZ.out]; rintro e w5 ⟨rfl, hxb⟩; have hx5 := hxb; have R5 := (Rq.drew).ext hx5; have k5 := R5.cell; have f5 := R5.frozen)))
    go_wp2
    have Rf := ((((R5.put 0 (.int .i64 op)).put 1 (.int .i64 d)).put 2 (.int .i64 s)).put 3 (.int .u16 z))
    have kf := Rf.cell
    have Ef := ((((Eq.drew.trans hx5).setCell (Nat.le_refl _) (p := ⟨w.heap.size, 0, none⟩) (.int .i64 op)).setCell (Nat.le_refl _) (p := ⟨w.heap.size, 1, none⟩) (.int .i64 d)).setCell (Nat.le_refl _) (p := ⟨w.heap.size, 2, none⟩) (.int .i64 s)).setCell (Nat.le_refl _) (p := ⟨w.heap.size, 3, none⟩) (.int .u16 z)
    refine bodyPost_ret (v := .tuple #[.agg #[.int .i64 op, .int .i64 d, .int .i64 s, .int .u16 z], .int .i64 2, .int .i64 0]) (by simp (maxDischargeDepth := 9) [results, Tryz.results70, go_sem, kf]) rfl ⟨rfl, Ef⟩
theorem read86_hit13n (v : Value) (w : World) (b : List Int) (hb : Byts w v b) (h0 : 1 < b.length) (x0 x1 op d s t : Int) (hx0 : b.getD 0 0 = x0) (hx1 : b.getD 1 0 = x1) (hG : guessS x0 x1 = (op, d, s)) (ht : t = 3) (hH : headsS op d s = ([x0], t)) (hsz : 2 ≤ b.length) (z : Int) (hzz : b.getD 1 0 = z) (hneg : 128 ≤ z) : Calls Tryz.prog 70 #[v] w (RRead w ⟨op, d, s, (z + 65280), 2, 0⟩) := by
  have HB := Lib.hid hb
  obtain ⟨A, c, rfl, h1, h2, h3, h4⟩ := hb
  obtain ⟨g, o, rfl, hlt, hc⟩ := h4 (by omega)
  have hc1 := hc 1 (by omega)
  have hc0 := hc 0 (by omega)
  simp only [Nat.add_zero] at hc0
  have r0 := getD_range h3 0
  have r1 := getD_range h3 1
  have hR := Lib.hid h3
  have HC := Lib.hid hc
  have hop := guessS_op x0 x1 (hx0 ▸ r0).1 (hx0 ▸ r0).2 (hx1 ▸ r1).1 (hx1 ▸ r1).2
  rw [hG] at hop
  simp only at hop
  have HG := Lib.hid hG; have HH := Lib.hid hH
  clear hG hH
  rw [hx0] at hc0 r0; rw [hx1] at hc1 r1
  have HX0 := Lib.hid hx0; have HX1 := Lib.hid hx1
  clear hx0 hx1 hc h3 h4
  generalize hL : b.length = L at *
  have HL := Lib.hid hL; clear hL
  have hz : ((L : Int) == 0) = false := by simp; omega
  have hz1 : (1 : Int) < (L : Int) := by omega
  subst ht
  have HSZ : Hid (hsizeS ((1 : Nat) : Int) 3 = 2) := Lib.hid rfl
  have rz := getD_range hR.out 1
  rw [hzz] at rz
  have HZ := Lib.hid hzz; clear hzz
  have HW8 : Hid (IntKind.u16.wrap (IntKind.i8.wrap z) = (z + 65280)) := Lib.hid (wrap8n z rz.1 rz.2 hneg)
  have HE : Hid (([x0].take 1 == b.take 1) = true) := Lib.hid (by
    have h1 := HX0.out; have h2 := HX1.out; have h3 := HL.out
    match b, h3 with
    | y0 :: y1 :: r, _ =>
      simp at h1 h2
      simp [h1, h2]
    | [y0], h3 => simp at h3; omega
    | [], h3 => simp at h3; omega)
  have hszL : (2 : Int) ≤ (L : Int) := by omega
  have hszc : (2 : Int) ≤ (c : Int) := by omega
  have hnls : ¬ (L : Int) < 2 := by omega
  go_enter Tryz.func70, Tryz.ntmps70
  go_wp2
  go_loopw [41] (fun i wr => i = .int .i64 0 ∧ Ext ((w.alloc (.cells #[.int .i64 0, .int .i64 0, .int .i64 0, .int .u16 0] 101)).alloc (.cells #[.int .u8 x1] 5)) wr) (fun i _ => 0)
  case atStart => exact ⟨rfl, Ext.refl _⟩
  case round =>
    obtain ⟨rfl, E⟩ := hrel
    have BR := ((Blk.new w _ 101).alloc (.cells #[.int .u8 x1] 5)).ext E
    have E0 := (((Ext.refl w).alloc (.cells #[.int .i64 0, .int .i64 0, .int .i64 0, .int .u16 0] 101)).alloc (.cells #[.int .u8 x1] 5)).trans E
    have ka := E.cell (p := ⟨w.heap.size + 1, 0, none⟩) (v := .int .u8 x1) (by simp)
    have kb0 := E0.cell hc0
    have hmin : min (1 : Int) (L : Int) = 1 := by omega
    go_wp2_with (first
      | (go_at_call 114; ((with_reducible refine (guess_any x0 x1 r0.1 r0.2 r1.1 r1.2 _).mono ?_); rw [HG.out]; rintro e w1 ⟨rfl, hx1⟩))
      | (go_at_call 115; ((with_reducible refine (heads_any op d s hop.1 hop.2 _).mono ?_); rw [HH.out]; rintro e w2 ⟨A2, c2, rfl, hby2, hx2⟩; have E2 := E0.trans (hx1.trans hx2); have B2 := Blk.new w2 #[.slice A2 1 c2, .int .i64 3] 137)))
    have HBY := Lib.hid hby2
    obtain ⟨A2', c2', hv2, hcc2, hcc2', hrr2, hcell2⟩ := hby2
    obtain ⟨b2, o2, hA2, hlt2, hce2⟩ := hcell2 (by simp)
    injection hv2 with e1 e2 e3
    subst e1 e3 hA2
    have kh1 := (((Ext.refl w2).alloc (.cells #[.slice (some ⟨b2, o2, none⟩) 1 c2, .int .i64 3] 137)).cell (hce2 (1 - 1) (by simp)))
    simp at kh1
    have q1 : (1 : Int) ≤ (c2 : Int) := by simp at hcc2; omega
    have q2 : (1 : Int) ≤ (c : Int) := by omega
    clear hcell2 hce2 hcc2 hcc2' e2 hrr2
    have H116 : ∀ n, Calls Tryz.prog 116 #[.slice (some ⟨b2, o2, none⟩) 1 c2, .slice (some ⟨g, o, none⟩) 1 c] ((w2.alloc (.cells #[.slice (some ⟨b2, o2, none⟩) 1 c2, .int .i64 3] 137)).drewN n) fun e w' => e = .returned (.bool true) ∧ ∃ m, w' = (w2.alloc (.cells #[.slice (some ⟨b2, o2, none⟩) 1 c2, .int .i64 3] 137)).drewN m := fun n => by
      refine Calls.quiet_of ?_
      have hh := equal116_any ([x0].take 1) (b.take 1) _ _ ((w2.alloc (.cells #[.slice (some ⟨b2, o2, none⟩) 1 c2, .int .i64 3] 137)).drewN n) (((HBY.out.take (by simp)).ext ((Ext.refl w2).alloc _)).ext ((Ext.refl _).drewN n)) (((HB.out.take (by rw [HL.out]; omega)).ext (E2.alloc _)).ext ((Ext.refl _).drewN n)) (by simp) (by simp; omega)
      refine hh.mono ?_
      rintro e w' ⟨rfl, hm⟩
      exact ⟨by rw [HE.out], hm⟩
    go_quiet ((go_at_call 116; exact H116 _))
    go_wp2_with (go_at_call 117; ((with_reducible refine (hsize_any 3 _ 1 c2 (by omega) _).mono ?_); rw [HSZ.out]; rintro e w3 ⟨rfl, hx3⟩; have B3 := (B2.drewN nq).ext hx3; have k3 := B3.cell; have R3 := ((((BR.ext hx1).ext hx2).alloc (.cells #[.slice (some ⟨b2, o2, none⟩) 1 c2, .int .i64 3] 137)).drewN nq).ext hx3; have kr := R3.cell; have fr := R3.frozen; have E3 := ((E2.alloc (.cells #[.slice (some ⟨b2, o2, none⟩) 1 c2, .int .i64 3] 137)).drewN nq).trans hx3))
    have hcne : ¬ c = 1 := by omega
    go_region_held3 (fun W => W.cell? ⟨w2.heap.size, 0, none⟩ = some (.slice (some ⟨b2, o2, none⟩) 1 c2) ∧ W.cell? ⟨w2.heap.size, 1, none⟩ = some (.int .i64 3)) (first | go_keep | (with_reducible exact ⟨hxa.cell (And.left ‹_ ∧ _›), hxa.cell (And.right ‹_ ∧ _›)⟩))
      (first
       | (go_at_call 117; ((with_reducible refine (hsize_any 3 _ 1 c2 (by omega) _).mono ?_); rw [HSZ.out]; rintro e w4 ⟨rfl, hxa⟩; have hx4 := hxa)))
    have B4 := ((Blk.new w3 #[.int .i64 op, .int .i64 d, .int .i64 s, .int .u16 0] 101).drew).ext hx4
    have B42 := ((B3.alloc (.cells #[.int .i64 op, .int .i64 d, .int .i64 s, .int .u16 0] 101)).drew).ext hx4
    have R4 := ((R3.alloc (.cells #[.int .i64 op, .int .i64 d, .int .i64 s, .int .u16 0] 101)).drew).ext hx4
    have E4 := ((E3.alloc (.cells #[.int .i64 op, .int .i64 d, .int .i64 s, .int .u16 0] 101)).drew).trans hx4
    have kz4 := E4.cell (HC.out 1 (by omega))
    rw [HZ.out] at kz4
    have k40 := B4.cell
    have f40 := B4.frozen
    have k42 := B42.cell
    go_wp2
    have lt3 := B3.lt
    have ltr := R3.lt
    have Bp := (B4.put 3 (.int .u16 (IntKind.u16.wrap (IntKind.i8.wrap z))))
    have kp := Bp.cell
    have Bq := (B42.other (a := ⟨w3.heap.size, 3, none⟩) (by simp only [ne_eq]; omega) (.int .u16 (IntKind.u16.wrap (IntKind.i8.wrap z))))
    have kq := Bq.cell
    have Rq := (R4.other (a := ⟨w3.heap.size, 3, none⟩) (by simp only [ne_eq]; omega) (.int .u16 (IntKind.u16.wrap (IntKind.i8.wrap z))))
    have Eq := (E4.setCell (show w.heap.size ≤ (⟨w3.heap.size, 3, none⟩ : Addr).block from by simp only; omega) (.int .u16 (IntKind.u16.wrap (IntKind.i8.wrap z))))
    have ne3 : w3.heap.size ≠ w.heap.size := by omega
    have ne2 : w2.heap.size ≠ w.heap.size := by have := ((BR.ext hx1).ext hx2).lt; omega
    clear k40 f40 k42 k3 kr fr
    go_region_held3 (fun W => W.cell? ⟨w3.heap.size, 0, none⟩ = some (.int .i64 op) ∧ W.cell? ⟨w3.heap.size, 1, none⟩ = some (.int .i64 d) ∧ W.cell? ⟨w3.heap.size, 2, none⟩ = some (.int .i64 s) ∧ W.cell? ⟨w3.heap.size, 3, none⟩ = some (.int .u16 (IntKind.u16.wrap (IntKind.i8.wrap z))) ∧ W.cell? ⟨w2.heap.size, 0, none⟩ = some (.slice (some ⟨b2, o2, none⟩) 1 c2) ∧ W.cell? ⟨w2.heap.size, 1, none⟩ = some (.int .i64 3))
      (first | exact ⟨kp 0, kp 1, kp 2, kp 3, kq 0, kq 1⟩ | go_keep | (with_reducible exact ⟨hxb.cell (And.left ‹_ ∧ _›), hxb.cell (And.left (And.right ‹_ ∧ _›)), hxb.cell (And.left (And.right (And.right ‹_ ∧ _›))), hxb.cell (And.left (And.right (And.right (And.right ‹_ ∧ _›)))), hxb.cell (And.left (And.right (And.right (And.right (And.right ‹_ ∧ _›))))), hxb.cell (And.right (And.right (And.right (And.right (And.right ‹_ ∧ _›)))))⟩) | (with_reducible exact ⟨cell_put4 (And.left ‹_ ∧ _›) ne3, cell_put4 (And.left (And.right ‹_ ∧ _›)) ne3, cell_put4 (And.left (And.right (And.right ‹_ ∧ _›))) ne3, cell_put4 (And.left (And.right (And.right (And.right ‹_ ∧ _›)))) ne3, cell_put4 (And.left (And.right (And.right (And.right (And.right ‹_ ∧ _›))))) ne2, cell_put4 (And.right (And.right (And.right (And.right (And.right ‹_ ∧ _›))))) ne2⟩))
      (first
       | (go_at_call 117; ((with_reducible refine (hsize_any 3 _ 1 c2 (by omega) _).mono ?_); rw [HSZ.out]; rintro e w5 ⟨rfl, hxb⟩; have hx5 := hxb; have R5 := (Rq.drew).ext hx5; have k5 := R5.cell; have f5 := R5.frozen)))
    go_wp2
    have Rf := ((((R5.put 0 (.int .i64 op)).put 1 (.int .i64 d)).put 2 (.int .i64 s)).put 3 (.int .u16 (IntKind.u16.wrap (IntKind.i8.wrap z))))
    have kf := Rf.cell
    have Ef := ((((Eq.drew.trans hx5).setCell (Nat.le_refl _) (p := ⟨w.heap.size, 0, none⟩) (.int .i64 op)).setCell (Nat.le_refl _) (p := ⟨w.heap.size, 1, none⟩) (.int .i64 d)).setCell (Nat.le_refl _) (p := ⟨w.heap.size, 2, none⟩) (.int .i64 s)).setCell (Nat.le_refl _) (p := ⟨w.heap.size, 3, none⟩) (.int .u16 (IntKind.u16.wrap (IntKind.i8.wrap z)))
    refine bodyPost_ret (v := .tuple #[.agg #[.int .i64 op, .int .i64 d, .int .i64 s, .int .u16 (IntKind.u16.wrap (IntKind.i8.wrap z))], .int .i64 2, .int .i64 0]) (by simp (maxDischargeDepth := 9) [results, Tryz.results70, go_sem, kf]) rfl ⟨by rw [HW8.out], Ef⟩
theorem read86_hit1o (v : Value) (w : World) (b : List Int) (hb : Byts w v b) (h0 : 1 < b.length) (x0 x1 op d s t : Int) (hx0 : b.getD 0 0 = x0) (hx1 : b.getD 1 0 = x1) (hG : guessS x0 x1 = (op, d, s)) (ht1 : ¬ t = 1) (ht2 : ¬ t = 2) (ht3 : ¬ t = 3) (hH : headsS op d s = ([x0], t)) (hsz : 1 ≤ b.length) : Calls Tryz.prog 70 #[v] w (RRead w ⟨op, d, s, 0, 1, 0⟩) := by
  have HB := Lib.hid hb
  obtain ⟨A, c, rfl, h1, h2, h3, h4⟩ := hb
  obtain ⟨g, o, rfl, hlt, hc⟩ := h4 (by omega)
  have hc1 := hc 1 (by omega)
  have hc0 := hc 0 (by omega)
  simp only [Nat.add_zero] at hc0
  have r0 := getD_range h3 0
  have r1 := getD_range h3 1
  have hR := Lib.hid h3
  have HC := Lib.hid hc
  have hop := guessS_op x0 x1 (hx0 ▸ r0).1 (hx0 ▸ r0).2 (hx1 ▸ r1).1 (hx1 ▸ r1).2
  rw [hG] at hop
  simp only at hop
  have HG := Lib.hid hG; have HH := Lib.hid hH
  clear hG hH
  rw [hx0] at hc0 r0; rw [hx1] at hc1 r1
  have HX0 := Lib.hid hx0; have HX1 := Lib.hid hx1
  clear hx0 hx1 hc h3 h4
  generalize hL : b.length = L at *
  have HL := Lib.hid hL; clear hL
  have hz : ((L : Int) == 0) = false := by simp; omega
  have hz1 : (1 : Int) < (L : Int) := by omega
  have t1 : (t == 1) = false := by simpa using ht1
  have t2 : (t == 2) = false := by simpa using ht2
  have t3 : (t == 3) = false := by simpa using ht3
  have HSZ : Hid (hsizeS ((1 : Nat) : Int) t = 1) := Lib.hid (by unfold hsizeS; rw [if_neg (by omega), if_neg (by omega)]; rfl)
  have HE : Hid (([x0].take 1 == b.take 1) = true) := Lib.hid (by
    have h1 := HX0.out; have h2 := HX1.out; have h3 := HL.out
    match b, h3 with
    | y0 :: y1 :: r, _ =>
      simp at h1 h2
      simp [h1, h2]
    | [y0], h3 => simp at h3; omega
    | [], h3 => simp at h3; omega)
  have hszL : (1 : Int) ≤ (L : Int) := by omega
  have hszc : (1 : Int) ≤ (c : Int) := by omega
  have hnls : ¬ (L : Int) < 1 := by omega
  go_enter Tryz.func70, Tryz.ntmps70
  go_wp2
  go_loopw [41] (fun i wr => i = .int .i64 0 ∧ Ext ((w.alloc (.cells #[.int .i64 0, .int .i64 0, .int .i64 0, .int .u16 0] 101)).alloc (.cells #[.int .u8 x1] 5)) wr) (fun i _ => 0)
  case atStart => exact ⟨rfl, Ext.refl _⟩
  case round =>
    obtain ⟨rfl, E⟩ := hrel
    have BR := ((Blk.new w _ 101).alloc (.cells #[.int .u8 x1] 5)).ext E
    have E0 := (((Ext.refl w).alloc (.cells #[.int .i64 0, .int .i64 0, .int .i64 0, .int .u16 0] 101)).alloc (.cells #[.int .u8 x1] 5)).trans E
    have ka := E.cell (p := ⟨w.heap.size + 1, 0, none⟩) (v := .int .u8 x1) (by simp)
    have kb0 := E0.cell hc0
    have hmin : min (1 : Int) (L : Int) = 1 := by omega
    go_wp2_with (first
      | (go_at_call 114; ((with_reducible refine (guess_any x0 x1 r0.1 r0.2 r1.1 r1.2 _).mono ?_); rw [HG.out]; rintro e w1 ⟨rfl, hx1⟩))
      | (go_at_call 115; ((with_reducible refine (heads_any op d s hop.1 hop.2 _).mono ?_); rw [HH.out]; rintro e w2 ⟨A2, c2, rfl, hby2, hx2⟩; have E2 := E0.trans (hx1.trans hx2); have B2 := Blk.new w2 #[.slice A2 1 c2, .int .i64 t] 137)))
    have HBY := Lib.hid hby2
    obtain ⟨A2', c2', hv2, hcc2, hcc2', hrr2, hcell2⟩ := hby2
    obtain ⟨b2, o2, hA2, hlt2, hce2⟩ := hcell2 (by simp)
    injection hv2 with e1 e2 e3
    subst e1 e3 hA2
    have kh1 := (((Ext.refl w2).alloc (.cells #[.slice (some ⟨b2, o2, none⟩) 1 c2, .int .i64 t] 137)).cell (hce2 (1 - 1) (by simp)))
    simp at kh1
    have q1 : (1 : Int) ≤ (c2 : Int) := by simp at hcc2; omega
    have q2 : (1 : Int) ≤ (c : Int) := by omega
    clear hcell2 hce2 hcc2 hcc2' e2 hrr2
    have H116 : ∀ n, Calls Tryz.prog 116 #[.slice (some ⟨b2, o2, none⟩) 1 c2, .slice (some ⟨g, o, none⟩) 1 c] ((w2.alloc (.cells #[.slice (some ⟨b2, o2, none⟩) 1 c2, .int .i64 t] 137)).drewN n) fun e w' => e = .returned (.bool true) ∧ ∃ m, w' = (w2.alloc (.cells #[.slice (some ⟨b2, o2, none⟩) 1 c2, .int .i64 t] 137)).drewN m := fun n => by
      refine Calls.quiet_of ?_
      have hh := equal116_any ([x0].take 1) (b.take 1) _ _ ((w2.alloc (.cells #[.slice (some ⟨b2, o2, none⟩) 1 c2, .int .i64 t] 137)).drewN n) (((HBY.out.take (by simp)).ext ((Ext.refl w2).alloc _)).ext ((Ext.refl _).drewN n)) (((HB.out.take (by rw [HL.out]; omega)).ext (E2.alloc _)).ext ((Ext.refl _).drewN n)) (by simp) (by simp; omega)
      refine hh.mono ?_
      rintro e w' ⟨rfl, hm⟩
      exact ⟨by rw [HE.out], hm⟩
    go_quiet ((go_at_call 116; exact H116 _))
    go_wp2_with (go_at_call 117; ((with_reducible refine (hsize_any t _ 1 c2 (by omega) _).mono ?_); rw [HSZ.out]; rintro e w3 ⟨rfl, hx3⟩; have B3 := (B2.drewN nq).ext hx3; have k3 := B3.cell; have R3 := ((((BR.ext hx1).ext hx2).alloc (.cells #[.slice (some ⟨b2, o2, none⟩) 1 c2, .int .i64 t] 137)).drewN nq).ext hx3; have kr := R3.cell; have fr := R3.frozen; have E3 := ((E2.alloc (.cells #[.slice (some ⟨b2, o2, none⟩) 1 c2, .int .i64 t] 137)).drewN nq).trans hx3))
    go_region_held3 (fun W => W.cell? ⟨w2.heap.size, 0, none⟩ = some (.slice (some ⟨b2, o2, none⟩) 1 c2) ∧ W.cell? ⟨w2.heap.size, 1, none⟩ = some (.int .i64 t)) (first | go_keep | (with_reducible exact ⟨hxa.cell (And.left ‹_ ∧ _›), hxa.cell (And.right ‹_ ∧ _›)⟩))
      (first
       | (go_at_call 117; ((with_reducible refine (hsize_any t _ 1 c2 (by omega) _).mono ?_); rw [HSZ.out]; rintro e w4 ⟨rfl, hxa⟩; have hx4 := hxa)))
    have B4 := ((Blk.new w3 #[.int .i64 op, .int .i64 d, .int .i64 s, .int .u16 0] 101).drew).ext hx4
    have B42 := ((B3.alloc (.cells #[.int .i64 op, .int .i64 d, .int .i64 s, .int .u16 0] 101)).drew).ext hx4
    have R4 := ((R3.alloc (.cells #[.int .i64 op, .int .i64 d, .int .i64 s, .int .u16 0] 101)).drew).ext hx4
    have E4 := ((E3.alloc (.cells #[.int .i64 op, .int .i64 d, .int .i64 s, .int .u16 0] 101)).drew).trans hx4
    have k40 := B4.cell
    have f40 := B4.frozen
    have k42 := B42.cell
    go_wp2
    have lt3 := B3.lt
    have ltr := R3.lt
    have Bp := B4
    have kp := Bp.cell
    have Bq := B42
    have kq := Bq.cell
    have Rq := R4
    have Eq := E4
    have ne3 : w3.heap.size ≠ w.heap.size := by omega
    have ne2 : w2.heap.size ≠ w.heap.size := by have := ((BR.ext hx1).ext hx2).lt; omega
    clear k40 f40 k42 k3 kr fr
    go_region_held3 (fun W => W.cell? ⟨w3.heap.size, 0, none⟩ = some (.int .i64 op) ∧ W.cell? ⟨w3.heap.size, 1, none⟩ = some (.int .i64 d) ∧ W.cell? ⟨w3.heap.size, 2, none⟩ = some (.int .i64 s) ∧ W.cell? ⟨w3.heap.size, 3, none⟩ = some (.int .u16 0) ∧ W.cell? ⟨w2.heap.size, 0, none⟩ = some (.slice (some ⟨b2, o2, none⟩) 1 c2) ∧ W.cell? ⟨w2.heap.size, 1, none⟩ = some (.int .i64 t))
      (first | exact ⟨kp 0, kp 1, kp 2, kp 3, kq 0, kq 1⟩ | go_keep | (with_reducible exact ⟨hxb.cell (And.left ‹_ ∧ _›), hxb.cell (And.left (And.right ‹_ ∧ _›)), hxb.cell (And.left (And.right (And.right ‹_ ∧ _›))), hxb.cell (And.left (And.right (And.right (And.right ‹_ ∧ _›)))), hxb.cell (And.left (And.right (And.right (And.right (And.right ‹_ ∧ _›))))), hxb.cell (And.right (And.right (And.right (And.right (And.right ‹_ ∧ _›)))))⟩) | (with_reducible exact ⟨cell_put4 (And.left ‹_ ∧ _›) ne3, cell_put4 (And.left (And.right ‹_ ∧ _›)) ne3, cell_put4 (And.left (And.right (And.right ‹_ ∧ _›))) ne3, cell_put4 (And.left (And.right (And.right (And.right ‹_ ∧ _›)))) ne3, cell_put4 (And.left (And.right (And.right (And.right (And.right ‹_ ∧ _›))))) ne2, cell_put4 (And.right (And.right (And.right (And.right (And.right ‹_ ∧ _›))))) ne2⟩))
      (first
       | (go_at_call 117; ((with_reducible refine (hsize_any t _ 1 c2 (by omega) _).mono ?_); rw [HSZ.out]; rintro e w5 ⟨rfl, hxb⟩; have hx5 := hxb; have R5 := (Rq.drew).ext hx5; have k5 := R5.cell; have f5 := R5.frozen)))
    go_wp2
    have Rf := ((((R5.put 0 (.int .i64 op)).put 1 (.int .i64 d)).put 2 (.int .i64 s)).put 3 (.int .u16 0))
    have kf := Rf.cell
    have Ef := ((((Eq.drew.trans hx5).setCell (Nat.le_refl _) (p := ⟨w.heap.size, 0, none⟩) (.int .i64 op)).setCell (Nat.le_refl _) (p := ⟨w.heap.size, 1, none⟩) (.int .i64 d)).setCell (Nat.le_refl _) (p := ⟨w.heap.size, 2, none⟩) (.int .i64 s)).setCell (Nat.le_refl _) (p := ⟨w.heap.size, 3, none⟩) (.int .u16 0)
    refine bodyPost_ret (v := .tuple #[.agg #[.int .i64 op, .int .i64 d, .int .i64 s, .int .u16 0], .int .i64 1, .int .i64 0]) (by simp (maxDischargeDepth := 9) [results, Tryz.results70, go_sem, kf]) rfl ⟨rfl, Ef⟩
end Go.Proofs.YtnklmehphmidhaaGreatDoor
