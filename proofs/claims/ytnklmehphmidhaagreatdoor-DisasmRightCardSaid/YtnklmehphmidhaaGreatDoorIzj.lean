/- isa86: what stands at the begin of some bytes. -/
import Derived.Test.YtnklmehphmidhaaGreatDoorIzh
namespace Go.Proofs.YtnklmehphmidhaaGreatDoor
open Go.RowKit
set_option maxRecDepth 100000
set_option maxHeartbeats 4000000
set_option linter.unusedSimpArgs false
set_option linter.unusedVariables false

theorem read86_skip20 (v : Value) (w : World) (b : List Int) (hb : Byts w v b) (h0 : 1 < b.length) (x0 x1 op d s t : Int) (hx0 : b.getD 0 0 = x0) (hx1 : b.getD 1 0 = x1) (hG : guessS x0 x1 = (op, d, s)) (hH : headsS op d s = ([], t)) : Calls Tryz.prog 70 #[v] w (RRead w ⟨0, 0, 0, 0, 0, 12⟩) := by
  have HB := Lib.hid hb
  obtain ⟨A, c, rfl, h1, h2, h3, h4⟩ := hb
  obtain ⟨g, o, rfl, hlt, hc⟩ := h4 (by omega)
  have hc1 := hc 1 (by omega)
  have hc0 := hc 0 (by omega)
  simp only [Nat.add_zero] at hc0
  have r0 := getD_range h3 0
  have r1 := getD_range h3 1
  have hR := Lib.hid h3
  have HC := Lib.hid hc
  have hop := guessS_op x0 x1 (hx0 ▸ r0).1 (hx0 ▸ r0).2 (hx1 ▸ r1).1 (hx1 ▸ r1).2
  rw [hG] at hop
  simp only at hop
  have HG := Lib.hid hG; have HH := Lib.hid hH
  clear hG hH
  rw [hx0] at hc0 r0; rw [hx1] at hc1 r1
  have HX0 := Lib.hid hx0; have HX1 := Lib.hid hx1
  clear hx0 hx1 hc h3 h4
  generalize hL : b.length = L at *
  have HL := Lib.hid hL; clear hL
  have hz : ((L : Int) == 0) = false := by simp; omega
  have hz1 : (1 : Int) < (L : Int) := by omega
  go_enter Tryz.func70, Tryz.ntmps70
  go_wp2
  go_loopw [41] (fun i wr => ∃ k, k ≤ 1 ∧ i = .int .i64 (k : Nat) ∧ Ext ((w.alloc (.cells #[.int .i64 0, .int .i64 0, .int .i64 0, .int .u16 0] 101)).alloc (.cells #[.int .u8 x1] 5)) wr) (fun i _ => 1 - (intOf i).toNat)
  case atStart => exact ⟨0, by omega, rfl, Ext.refl _⟩
  case round =>
    obtain ⟨k, hk, rfl, E⟩ := hrel
    have BR := ((Blk.new w _ 101).alloc (.cells #[.int .u8 x1] 5)).ext E
    have E0 := (((Ext.refl w).alloc (.cells #[.int .i64 0, .int .i64 0, .int .i64 0, .int .u16 0] 101)).alloc (.cells #[.int .u8 x1] 5)).trans E
    by_cases hlt : k < 1
    · obtain rfl : k = 0 := by omega
      have ka := E.cell (p := ⟨w.heap.size + 1, 0, none⟩) (v := .int .u8 x1) (by simp)
      have kb0 := E0.cell hc0
      have hmin : min (0 : Int) (L : Int) = 0 := by omega
      go_wp2_with (first
        | (go_at_call 114; ((with_reducible refine (guess_any x0 x1 r0.1 r0.2 r1.1 r1.2 _).mono ?_); rw [HG.out]; rintro e w1 ⟨rfl, hx1⟩))
        | (go_at_call 115; ((with_reducible refine (heads_any op d s hop.1 hop.2 _).mono ?_); rw [HH.out]; rintro e w2 ⟨A2, c2, rfl, hby2, hx2⟩; have E2 := E0.trans (hx1.trans hx2); have B2 := Blk.new w2 #[.slice A2 0 c2, .int .i64 t] 137)))
      go_quiet (fail)
      go_wp2
      go_roundw
      case rel => exact ⟨1, by omega, by go_num, ((E.trans (hx1.trans hx2)).alloc _).drewN _⟩
      case measure => simp [intOf]
    · obtain rfl : k = 1 := by omega
      have k0 := BR.cell
      have f0 := BR.frozen
      go_wp2
      have Rf := ((((BR.put 0 (.int .i64 0)).put 1 (.int .i64 0)).put 2 (.int .i64 0)).put 3 (.int .u16 0))
      have kf := Rf.cell
      refine bodyPost_ret (v := .tuple #[.agg #[.int .i64 0, .int .i64 0, .int .i64 0, .int .u16 0], .int .i64 0, .int .i64 12]) (by first | (simp (maxDischargeDepth := 9) [results, Tryz.results70, go_sem, k0]; done) | (simp (maxDischargeDepth := 9) [results, Tryz.results70, go_sem, kf]; done)) rfl ⟨rfl, ?_⟩
      repeat (first | exact E0 | (refine Ext.setCell ?_ (Nat.le_refl _) _))
theorem read86_skip21 (v : Value) (w : World) (b : List Int) (hb : Byts w v b) (h0 : 1 < b.length) (x0 x1 op d s t : Int) (hx0 : b.getD 0 0 = x0) (hx1 : b.getD 1 0 = x1) (hG : guessS x0 x1 = (op, d, s)) (x : Int) (hH : headsS op d s = ([x], t)) (hE : ([x] == b.take 1) = false) : Calls Tryz.prog 70 #[v] w (RRead w ⟨0, 0, 0, 0, 0, 12⟩) := by
  have HB := Lib.hid hb
  obtain ⟨A, c, rfl, h1, h2, h3, h4⟩ := hb
  obtain ⟨g, o, rfl, hlt, hc⟩ := h4 (by omega)
  have hc1 := hc 1 (by omega)
  have hc0 := hc 0 (by omega)
  simp only [Nat.add_zero] at hc0
  have r0 := getD_range h3 0
  have r1 := getD_range h3 1
  have hR := Lib.hid h3
  have HC := Lib.hid hc
  have hop := guessS_op x0 x1 (hx0 ▸ r0).1 (hx0 ▸ r0).2 (hx1 ▸ r1).1 (hx1 ▸ r1).2
  rw [hG] at hop
  simp only at hop
  have HG := Lib.hid hG; have HH := Lib.hid hH
  clear hG hH
  rw [hx0] at hc0 r0; rw [hx1] at hc1 r1
  have HX0 := Lib.hid hx0; have HX1 := Lib.hid hx1
  clear hx0 hx1 hc h3 h4
  generalize hL : b.length = L at *
  have HL := Lib.hid hL; clear hL
  have hz : ((L : Int) == 0) = false := by simp; omega
  have hz1 : (1 : Int) < (L : Int) := by omega
  have HE : Hid (([x].take 1 == b.take 1) = false) := Lib.hid (by simpa using hE)
  clear hE
  go_enter Tryz.func70, Tryz.ntmps70
  go_wp2
  go_loopw [41] (fun i wr => ∃ k, k ≤ 1 ∧ i = .int .i64 (k : Nat) ∧ Ext ((w.alloc (.cells #[.int .i64 0, .int .i64 0, .int .i64 0, .int .u16 0] 101)).alloc (.cells #[.int .u8 x1] 5)) wr) (fun i _ => 1 - (intOf i).toNat)
  case atStart => exact ⟨0, by omega, rfl, Ext.refl _⟩
  case round =>
    obtain ⟨k, hk, rfl, E⟩ := hrel
    have BR := ((Blk.new w _ 101).alloc (.cells #[.int .u8 x1] 5)).ext E
    have E0 := (((Ext.refl w).alloc (.cells #[.int .i64 0, .int .i64 0, .int .i64 0, .int .u16 0] 101)).alloc (.cells #[.int .u8 x1] 5)).trans E
    by_cases hlt : k < 1
    · obtain rfl : k = 0 := by omega
      have ka := E.cell (p := ⟨w.heap.size + 1, 0, none⟩) (v := .int .u8 x1) (by simp)
      have kb0 := E0.cell hc0
      have hmin : min (1 : Int) (L : Int) = 1 := by omega
      go_wp2_with (first
        | (go_at_call 114; ((with_reducible refine (guess_any x0 x1 r0.1 r0.2 r1.1 r1.2 _).mono ?_); rw [HG.out]; rintro e w1 ⟨rfl, hx1⟩))
        | (go_at_call 115; ((with_reducible refine (heads_any op d s hop.1 hop.2 _).mono ?_); rw [HH.out]; rintro e w2 ⟨A2, c2, rfl, hby2, hx2⟩; have E2 := E0.trans (hx1.trans hx2); have B2 := Blk.new w2 #[.slice A2 1 c2, .int .i64 t] 137)))
      have HBY := Lib.hid hby2
      obtain ⟨A2', c2', hv2, hcc2, hcc2', hrr2, hcell2⟩ := hby2
      obtain ⟨b2, o2, hA2, hlt2, hce2⟩ := hcell2 (by simp)
      injection hv2 with e1 e2 e3
      subst e1 e3 hA2
      have kh1 := (((Ext.refl w2).alloc (.cells #[.slice (some ⟨b2, o2, none⟩) 1 c2, .int .i64 t] 137)).cell (hce2 (1 - 1) (by simp)))
      simp at kh1
      have q1 : (1 : Int) ≤ (c2 : Int) := by simp at hcc2; omega
      have q2 : (1 : Int) ≤ (c : Int) := by omega
      clear hcell2 hce2 hcc2 hcc2' e2 hrr2
      have H116 : ∀ n, Calls Tryz.prog 116 #[.slice (some ⟨b2, o2, none⟩) 1 c2, .slice (some ⟨g, o, none⟩) 1 c] ((w2.alloc (.cells #[.slice (some ⟨b2, o2, none⟩) 1 c2, .int .i64 t] 137)).drewN n) fun e w' => e = .returned (.bool false) ∧ ∃ m, w' = (w2.alloc (.cells #[.slice (some ⟨b2, o2, none⟩) 1 c2, .int .i64 t] 137)).drewN m := fun n => by
        refine Calls.quiet_of ?_
        have hh := equal116_any ([x].take 1) (b.take 1) _ _ ((w2.alloc (.cells #[.slice (some ⟨b2, o2, none⟩) 1 c2, .int .i64 t] 137)).drewN n) (((HBY.out.take (by simp)).ext ((Ext.refl w2).alloc _)).ext ((Ext.refl _).drewN n)) (((HB.out.take (by rw [HL.out]; omega)).ext (E2.alloc _)).ext ((Ext.refl _).drewN n)) (by simp) (by simp; omega)
        refine hh.mono ?_
        rintro e w' ⟨rfl, hm⟩
        exact ⟨by rw [HE.out], hm⟩
      go_quiet ((go_at_call 116; exact H116 _))
      go_wp2
      go_roundw
      case rel => exact ⟨1, by omega, by go_num, ((E.trans (hx1.trans hx2)).alloc _).drewN _⟩
      case measure => simp [intOf]
    · obtain rfl : k = 1 := by omega
      have k0 := BR.cell
      have f0 := BR.frozen
      go_wp2
      have Rf := ((((BR.put 0 (.int .i64 0)).put 1 (.int .i64 0)).put 2 (.int .i64 0)).put 3 (.int .u16 0))
      have kf := Rf.cell
      refine bodyPost_ret (v := .tuple #[.agg #[.int .i64 0, .int .i64 0, .int .i64 0, .int .u16 0], .int .i64 0, .int .i64 12]) (by first | (simp (maxDischargeDepth := 9) [results, Tryz.results70, go_sem, k0]; done) | (simp (maxDischargeDepth := 9) [results, Tryz.results70, go_sem, kf]; done)) rfl ⟨rfl, ?_⟩
      repeat (first | exact E0 | (refine Ext.setCell ?_ (Nat.le_refl _) _))
theorem read86_skip22 (v : Value) (w : World) (b : List Int) (hb : Byts w v b) (h0 : 1 < b.length) (x0 x1 op d s t : Int) (hx0 : b.getD 0 0 = x0) (hx1 : b.getD 1 0 = x1) (hG : guessS x0 x1 = (op, d, s)) (x y : Int) (hH : headsS op d s = ([x, y], t)) (hE : ([x, y] == b.take 2) = false) : Calls Tryz.prog 70 #[v] w (RRead w ⟨0, 0, 0, 0, 0, 12⟩) := by
  have HB := Lib.hid hb
  obtain ⟨A, c, rfl, h1, h2, h3, h4⟩ := hb
  obtain ⟨g, o, rfl, hlt, hc⟩ := h4 (by omega)
  have hc1 := hc 1 (by omega)
  have hc0 := hc 0 (by omega)
  simp only [Nat.add_zero] at hc0
  have r0 := getD_range h3 0
  have r1 := getD_range h3 1
  have hR := Lib.hid h3
  have HC := Lib.hid hc
  have hop := guessS_op x0 x1 (hx0 ▸ r0).1 (hx0 ▸ r0).2 (hx1 ▸ r1).1 (hx1 ▸ r1).2
  rw [hG] at hop
  simp only at hop
  have HG := Lib.hid hG; have HH := Lib.hid hH
  clear hG hH
  rw [hx0] at hc0 r0; rw [hx1] at hc1 r1
  have HX0 := Lib.hid hx0; have HX1 := Lib.hid hx1
  clear hx0 hx1 hc h3 h4
  generalize hL : b.length = L at *
  have HL := Lib.hid hL; clear hL
  have hz : ((L : Int) == 0) = false := by simp; omega
  have hz1 : (1 : Int) < (L : Int) := by omega
  have HE : Hid (([x, y].take 2 == b.take 2) = false) := Lib.hid (by simpa using hE)
  clear hE
  go_enter Tryz.func70, Tryz.ntmps70
  go_wp2
  go_loopw [41] (fun i wr => ∃ k, k ≤ 1 ∧ i = .int .i64 (k : Nat) ∧ Ext ((w.alloc (.cells #[.int .i64 0, .int .i64 0, .int .i64 0, .int .u16 0] 101)).alloc (.cells #[.int .u8 x1] 5)) wr) (fun i _ => 1 - (intOf i).toNat)
  case atStart => exact ⟨0, by omega, rfl, Ext.refl _⟩
  case round =>
    obtain ⟨k, hk, rfl, E⟩ := hrel
    have BR := ((Blk.new w _ 101).alloc (.cells #[.int .u8 x1] 5)).ext E
    have E0 := (((Ext.refl w).alloc (.cells #[.int .i64 0, .int .i64 0, .int .i64 0, .int .u16 0] 101)).alloc (.cells #[.int .u8 x1] 5)).trans E
    by_cases hlt : k < 1
    · obtain rfl : k = 0 := by omega
      have ka := E.cell (p := ⟨w.heap.size + 1, 0, none⟩) (v := .int .u8 x1) (by simp)
      have kb0 := E0.cell hc0
      have hmin : min (2 : Int) (L : Int) = 2 := by omega
      go_wp2_with (first
        | (go_at_call 114; ((with_reducible refine (guess_any x0 x1 r0.1 r0.2 r1.1 r1.2 _).mono ?_); rw [HG.out]; rintro e w1 ⟨rfl, hx1⟩))
        | (go_at_call 115; ((with_reducible refine (heads_any op d s hop.1 hop.2 _).mono ?_); rw [HH.out]; rintro e w2 ⟨A2, c2, rfl, hby2, hx2⟩; have E2 := E0.trans (hx1.trans hx2); have B2 := Blk.new w2 #[.slice A2 2 c2, .int .i64 t] 137)))
      have HBY := Lib.hid hby2
      obtain ⟨A2', c2', hv2, hcc2, hcc2', hrr2, hcell2⟩ := hby2
      obtain ⟨b2, o2, hA2, hlt2, hce2⟩ := hcell2 (by simp)
      injection hv2 with e1 e2 e3
      subst e1 e3 hA2
      have kh1 := (((Ext.refl w2).alloc (.cells #[.slice (some ⟨b2, o2, none⟩) 2 c2, .int .i64 t] 137)).cell (hce2 (2 - 1) (by simp)))
      simp at kh1
      have q1 : (2 : Int) ≤ (c2 : Int) := by simp at hcc2; omega
      have q2 : (2 : Int) ≤ (c : Int) := by omega
      clear hcell2 hce2 hcc2 hcc2' e2 hrr2
      have H116 : ∀ n, Calls Tryz.prog 116 #[.slice (some ⟨b2, o2, none⟩) 2 c2, .slice (some ⟨g, o, none⟩) 2 c] ((w2.alloc (.cells #[.slice (some ⟨b2, o2, none⟩) 2 c2, .int .i64 t] 137)).drewN n) fun e w' => e = .returned (.bool false) ∧ ∃ m, w' = (w2.alloc (.cells #[.slice (some ⟨b2, o2, none⟩) 2 c2, .int .i64 t] 137)).drewN m := fun n => by
        refine Calls.quiet_of ?_
        have hh := equal116_any ([x, y].take 2) (b.take 2) _ _ ((w2.alloc (.cells #[.slice (some ⟨b2, o2, none⟩) 2 c2, .int .i64 t] 137)).drewN n) (((HBY.out.take (by simp)).ext ((Ext.refl w2).alloc _)).ext ((Ext.refl _).drewN n)) (((HB.out.take (by rw [HL.out]; omega)).ext (E2.alloc _)).ext ((Ext.refl _).drewN n)) (by simp) (by simp; omega)
        refine hh.mono ?_
        rintro e w' ⟨rfl, hm⟩
        exact ⟨by rw [HE.out], hm⟩
      go_quiet ((go_at_call 116; exact H116 _))
      go_wp2
      go_roundw
      case rel => exact ⟨1, by omega, by go_num, ((E.trans (hx1.trans hx2)).alloc _).drewN _⟩
      case measure => simp [intOf]
    · obtain rfl : k = 1 := by omega
      have k0 := BR.cell
      have f0 := BR.frozen
      go_wp2
      have Rf := ((((BR.put 0 (.int .i64 0)).put 1 (.int .i64 0)).put 2 (.int .i64 0)).put 3 (.int .u16 0))
      have kf := Rf.cell
      refine bodyPost_ret (v := .tuple #[.agg #[.int .i64 0, .int .i64 0, .int .i64 0, .int .u16 0], .int .i64 0, .int .i64 12]) (by first | (simp (maxDischargeDepth := 9) [results, Tryz.results70, go_sem, k0]; done) | (simp (maxDischargeDepth := 9) [results, Tryz.results70, go_sem, kf]; done)) rfl ⟨rfl, ?_⟩
      repeat (first | exact E0 | (refine Ext.setCell ?_ (Nat.le_refl _) _))
theorem read86_short21 (v : Value) (w : World) (b : List Int) (hb : Byts w v b) (h0 : 1 < b.length) (x0 x1 op d s t : Int) (hx0 : b.getD 0 0 = x0) (hx1 : b.getD 1 0 = x1) (hG : guessS x0 x1 = (op, d, s)) (hH : headsS op d s = ([x0], t)) (z : Int) (hz3 : hsizeS ((1 : Nat) : Int) t = z) (hS : (b.length : Int) < z) : Calls Tryz.prog 70 #[v] w (RRead w ⟨0, 0, 0, 0, 0, 2⟩) := by
  have HB := Lib.hid hb
  obtain ⟨A, c, rfl, h1, h2, h3, h4⟩ := hb
  obtain ⟨g, o, rfl, hlt, hc⟩ := h4 (by omega)
  have hc1 := hc 1 (by omega)
  have hc0 := hc 0 (by omega)
  simp only [Nat.add_zero] at hc0
  have r0 := getD_range h3 0
  have r1 := getD_range h3 1
  have hR := Lib.hid h3
  have HC := Lib.hid hc
  have hop := guessS_op x0 x1 (hx0 ▸ r0).1 (hx0 ▸ r0).2 (hx1 ▸ r1).1 (hx1 ▸ r1).2
  rw [hG] at hop
  simp only at hop
  have HG := Lib.hid hG; have HH := Lib.hid hH
  clear hG hH
  rw [hx0] at hc0 r0; rw [hx1] at hc1 r1
  have HX0 := Lib.hid hx0; have HX1 := Lib.hid hx1
  clear hx0 hx1 hc h3 h4
  generalize hL : b.length = L at *
  have HL := Lib.hid hL; clear hL
  have hz : ((L : Int) == 0) = false := by simp; omega
  have hz1 : (1 : Int) < (L : Int) := by omega
  have HSZ := Lib.hid hz3
  clear hz3
  have HE : Hid (([x0].take 1 == b.take 1) = true) := Lib.hid (by
    have h1 := HX0.out; have h2 := HX1.out; have h3 := HL.out
    match b, h3 with
    | y0 :: y1 :: r, _ =>
      simp at h1 h2
      simp [h1, h2]
    | [y0], h3 => simp at h3; omega
    | [], h3 => simp at h3; omega)
  go_enter Tryz.func70, Tryz.ntmps70
  go_wp2
  go_loopw [41] (fun i wr => i = .int .i64 0 ∧ Ext ((w.alloc (.cells #[.int .i64 0, .int .i64 0, .int .i64 0, .int .u16 0] 101)).alloc (.cells #[.int .u8 x1] 5)) wr) (fun i _ => 0)
  case atStart => exact ⟨rfl, Ext.refl _⟩
  case round =>
    obtain ⟨rfl, E⟩ := hrel
    have BR := ((Blk.new w _ 101).alloc (.cells #[.int .u8 x1] 5)).ext E
    have E0 := (((Ext.refl w).alloc (.cells #[.int .i64 0, .int .i64 0, .int .i64 0, .int .u16 0] 101)).alloc (.cells #[.int .u8 x1] 5)).trans E
    have ka := E.cell (p := ⟨w.heap.size + 1, 0, none⟩) (v := .int .u8 x1) (by simp)
    have kb0 := E0.cell hc0
    have hmin : min (1 : Int) (L : Int) = 1 := by omega
    go_wp2_with (first
      | (go_at_call 114; ((with_reducible refine (guess_any x0 x1 r0.1 r0.2 r1.1 r1.2 _).mono ?_); rw [HG.out]; rintro e w1 ⟨rfl, hx1⟩))
      | (go_at_call 115; ((with_reducible refine (heads_any op d s hop.1 hop.2 _).mono ?_); rw [HH.out]; rintro e w2 ⟨A2, c2, rfl, hby2, hx2⟩; have E2 := E0.trans (hx1.trans hx2); have B2 := Blk.new w2 #[.slice A2 1 c2, .int .i64 t] 137)))
    have HBY := Lib.hid hby2
    obtain ⟨A2', c2', hv2, hcc2, hcc2', hrr2, hcell2⟩ := hby2
    obtain ⟨b2, o2, hA2, hlt2, hce2⟩ := hcell2 (by simp)
    injection hv2 with e1 e2 e3
    subst e1 e3 hA2
    have kh1 := (((Ext.refl w2).alloc (.cells #[.slice (some ⟨b2, o2, none⟩) 1 c2, .int .i64 t] 137)).cell (hce2 (1 - 1) (by simp)))
    simp at kh1
    have q1 : (1 : Int) ≤ (c2 : Int) := by simp at hcc2; omega
    have q2 : (1 : Int) ≤ (c : Int) := by omega
    clear hcell2 hce2 hcc2 hcc2' e2 hrr2
    have H116 : ∀ n, Calls Tryz.prog 116 #[.slice (some ⟨b2, o2, none⟩) 1 c2, .slice (some ⟨g, o, none⟩) 1 c] ((w2.alloc (.cells #[.slice (some ⟨b2, o2, none⟩) 1 c2, .int .i64 t] 137)).drewN n) fun e w' => e = .returned (.bool true) ∧ ∃ m, w' = (w2.alloc (.cells #[.slice (some ⟨b2, o2, none⟩) 1 c2, .int .i64 t] 137)).drewN m := fun n => by
      refine Calls.quiet_of ?_
      have hh := equal116_any ([x0].take 1) (b.take 1) _ _ ((w2.alloc (.cells #[.slice (some ⟨b2, o2, none⟩) 1 c2, .int .i64 t] 137)).drewN n) (((HBY.out.take (by simp)).ext ((Ext.refl w2).alloc _)).ext ((Ext.refl _).drewN n)) (((HB.out.take (by rw [HL.out]; omega)).ext (E2.alloc _)).ext ((Ext.refl _).drewN n)) (by simp) (by simp; omega)
      refine hh.mono ?_
      rintro e w' ⟨rfl, hm⟩
      exact ⟨by rw [HE.out], hm⟩
    go_quiet ((go_at_call 116; exact H116 _))
    go_wp2_with (go_at_call 117; ((with_reducible refine (hsize_any t _ 1 c2 (by omega) _).mono ?_); rw [HSZ.out]; rintro e w3 ⟨rfl, hx3⟩; have B3 := (B2.drewN nq).ext hx3; have k3 := B3.cell; have R3 := ((((BR.ext hx1).ext hx2).alloc (.cells #[.slice (some ⟨b2, o2, none⟩) 1 c2, .int .i64 t] 137)).drewN nq).ext hx3; have kr := R3.cell; have fr := R3.frozen; have E3 := ((E2.alloc (.cells #[.slice (some ⟨b2, o2, none⟩) 1 c2, .int .i64 t] 137)).drewN nq).trans hx3))
    have Rf := ((((R3.put 0 (.int .i64 0)).put 1 (.int .i64 0)).put 2 (.int .i64 0)).put 3 (.int .u16 0))
    have kf := Rf.cell
    refine bodyPost_ret (v := .tuple #[.agg #[.int .i64 0, .int .i64 0, .int .i64 0, .int .u16 0], .int .i64 0, .int .i64 2]) (by first | (simp (maxDischargeDepth := 9) [results, Tryz.results70, go_sem, kr]; done) | (simp (maxDischargeDepth := 9) [results, Tryz.results70, go_sem, kf]; done)) rfl ⟨rfl, ?_⟩
    repeat (first | exact E3 | (refine Ext.setCell ?_ (Nat.le_refl _) _))
theorem read86_short22 (v : Value) (w : World) (b : List Int) (hb : Byts w v b) (h0 : 1 < b.length) (x0 x1 op d s t : Int) (hx0 : b.getD 0 0 = x0) (hx1 : b.getD 1 0 = x1) (hG : guessS x0 x1 = (op, d, s)) (hH : headsS op d s = ([x0, x1], t)) (z : Int) (hz3 : hsizeS ((2 : Nat) : Int) t = z) (hS : (b.length : Int) < z) : Calls Tryz.prog 70 #[v] w (RRead w ⟨0, 0, 0, 0, 0, 2⟩) := by
  have HB := Lib.hid hb
  obtain ⟨A, c, rfl, h1, h2, h3, h4⟩ := hb
  obtain ⟨g, o, rfl, hlt, hc⟩ := h4 (by omega)
  have hc1 := hc 1 (by omega)
  have hc0 := hc 0 (by omega)
  simp only [Nat.add_zero] at hc0
  have r0 := getD_range h3 0
  have r1 := getD_range h3 1
  have hR := Lib.hid h3
  have HC := Lib.hid hc
  have hop := guessS_op x0 x1 (hx0 ▸ r0).1 (hx0 ▸ r0).2 (hx1 ▸ r1).1 (hx1 ▸ r1).2
  rw [hG] at hop
  simp only at hop
  have HG := Lib.hid hG; have HH := Lib.hid hH
  clear hG hH
  rw [hx0] at hc0 r0; rw [hx1] at hc1 r1
  have HX0 := Lib.hid hx0; have HX1 := Lib.hid hx1
  clear hx0 hx1 hc h3 h4
  generalize hL : b.length = L at *
  have HL := Lib.hid hL; clear hL
  have hz : ((L : Int) == 0) = false := by simp; omega
  have hz1 : (1 : Int) < (L : Int) := by omega
  have HSZ := Lib.hid hz3
  clear hz3
  have HE : Hid (([x0, x1].take 2 == b.take 2) = true) := Lib.hid (by
    have h1 := HX0.out; have h2 := HX1.out; have h3 := HL.out
    match b, h3 with
    | y0 :: y1 :: r, _ =>
      simp at h1 h2
      simp [h1, h2]
    | [y0], h3 => simp at h3; omega
    | [], h3 => simp at h3; omega)
  go_enter Tryz.func70, Tryz.ntmps70
  go_wp2
  go_loopw [41] (fun i wr => i = .int .i64 0 ∧ Ext ((w.alloc (.cells #[.int .i64 0, .int .i64 0, .int .i64 0, .int .u16 0] 101)).alloc (.cells #[.int .u8 x1] 5)) wr) (fun i _ => 0)
  case atStart => exact ⟨rfl, Ext.refl _⟩
  case round =>
    obtain ⟨rfl, E⟩ := hrel
    have BR := ((Blk.new w _ 101).alloc (.cells #[.int .u8 x1] 5)).ext E
    have E0 := (((Ext.refl w).alloc (.cells #[.int .i64 0, .int .i64 0, .int .i64 0, .int .u16 0] 101)).alloc (.cells #[.int .u8 x1] 5)).trans E
    have ka := E.cell (p := ⟨w.heap.size + 1, 0, none⟩) (v := .int .u8 x1) (by simp)
    have kb0 := E0.cell hc0
    have hmin : min (2 : Int) (L : Int) = 2 := by omega
    go_wp2_with (first
      | (go_at_call 114; ((with_reducible refine (guess_any x0 x1 r0.1 r0.2 r1.1 r1.2 _).mono ?_); rw [HG.out]; rintro e w1 ⟨rfl, hx1⟩))
      | (go_at_call 115; ((with_reducible refine (heads_any op d s hop.1 hop.2 _).mono ?_); rw [HH.out]; rintro e w2 ⟨A2, c2, rfl, hby2, hx2⟩; have E2 := E0.trans (hx1.trans hx2); have B2 := Blk.new w2 #[.slice A2 2 c2, .int .i64 t] 137)))
    have HBY := Lib.hid hby2
    obtain ⟨A2', c2', hv2, hcc2, hcc2', hrr2, hcell2⟩ := hby2
    obtain ⟨b2, o2, hA2, hlt2, hce2⟩ := hcell2 (by simp)
    injection hv2 with e1 e2 e3
    subst e1 e3 hA2
    have kh1 := (((Ext.refl w2).alloc (.cells #[.slice (some ⟨b2, o2, none⟩) 2 c2, .int .i64 t] 137)).cell (hce2 (2 - 1) (by simp)))
    simp at kh1
    have q1 : (2 : Int) ≤ (c2 : Int) := by simp at hcc2; omega
    have q2 : (2 : Int) ≤ (c : Int) := by omega
    clear hcell2 hce2 hcc2 hcc2' e2 hrr2
    have H116 : ∀ n, Calls Tryz.prog 116 #[.slice (some ⟨b2, o2, none⟩) 2 c2, .slice (some ⟨g, o, none⟩) 2 c] ((w2.alloc (.cells #[.slice (some ⟨b2, o2, none⟩) 2 c2, .int .i64 t] 137)).drewN n) fun e w' => e = .returned (.bool true) ∧ ∃ m, w' = (w2.alloc (.cells #[.slice (some ⟨b2, o2, none⟩) 2 c2, .int .i64 t] 137)).drewN m := fun n => by
      refine Calls.quiet_of ?_
      have hh := equal116_any ([x0, x1].take 2) (b.take 2) _ _ ((w2.alloc (.cells #[.slice (some ⟨b2, o2, none⟩) 2 c2, .int .i64 t] 137)).drewN n) (((HBY.out.take (by simp)).ext ((Ext.refl w2).alloc _)).ext ((Ext.refl _).drewN n)) (((HB.out.take (by rw [HL.out]; omega)).ext (E2.alloc _)).ext ((Ext.refl _).drewN n)) (by simp) (by simp; omega)
      refine hh.mono ?_
      rintro e w' ⟨rfl, hm⟩
      exact ⟨by rw [HE.out], hm⟩
    go_quiet ((go_at_call 116; exact H116 _))
    go_wp2_with (go_at_call 117; ((with_reducible refine (hsize_any t _ 2 c2 (by omega) _).mono ?_); rw [HSZ.out]; rintro e w3 ⟨rfl, hx3⟩; have B3 := (B2.drewN nq).ext hx3; have k3 := B3.cell; have R3 := ((((BR.ext hx1).ext hx2).alloc (.cells #[.slice (some ⟨b2, o2, none⟩) 2 c2, .int .i64 t] 137)).drewN nq).ext hx3; have kr := R3.cell; have fr := R3.frozen; have E3 := ((E2.alloc (.cells #[.slice (some ⟨b2, o2, none⟩) 2 c2, .int .i64 t] 137)).drewN nq).trans hx3))
    have Rf := ((((R3.put 0 (.int .i64 0)).put 1 (.int .i64 0)).put 2 (.int .i64 0)).put 3 (.int .u16 0))
    have kf := Rf.cell
    refine bodyPost_ret (v := .tuple #[.agg #[.int .i64 0, .int .i64 0, .int .i64 0, .int .u16 0], .int .i64 0, .int .i64 2]) (by first | (simp (maxDischargeDepth := 9) [results, Tryz.results70, go_sem, kr]; done) | (simp (maxDischargeDepth := 9) [results, Tryz.results70, go_sem, kf]; done)) rfl ⟨rfl, ?_⟩
    repeat (first | exact E3 | (refine Ext.setCell ?_ (Nat.le_refl _) _))
end Go.Proofs.YtnklmehphmidhaaGreatDoor
