/- isa86: what one byte alone may be. -/
import Derived.Test.YtnklmehphmidhaaGreatDoorIzj
import Derived.Test.YtnklmehphmidhaaGreatDoorMl
namespace Go.Proofs.YtnklmehphmidhaaGreatDoor
open Go.RowKit
set_option maxRecDepth 100000
set_option maxHeartbeats 4000000
set_option linter.unusedSimpArgs false
set_option linter.unusedVariables false

theorem scan_skip {b : List Int} {m : Int} {r : List Int} (h : hitN b (hdS b m).1 m = false) : scanS b (m :: r) = scanS b r := by
  rw [scanS, h]; rfl
theorem scan_hit {b : List Int} {m : Int} {r : List Int} (h : hitN b (hdS b m).1 m = true) : scanS b (m :: r) = takeS b m := by
  rw [scanS, h]; rfl
theorem secs_drop (k : Nat) (hk : k < 256) : ((List.range 256).map Int.ofNat).drop k = (k : Int) :: ((List.range 256).map Int.ofNat).drop (k + 1) := by
  rw [List.drop_eq_getElem_cons (by simp; omega)]
  simp

theorem read86_one (v : Value) (w : World) (x0 : Int) (hb : Byts w v [x0]) : Calls Tryz.prog 70 #[v] w (RRead w (read86S [x0])) := by
  obtain ⟨i0, hi0, hz0, hz1, hz2⟩ := info_parts Tryz.info5
  have HB := Lib.hid hb
  obtain ⟨A, c, rfl, h1, h2, h3, h4⟩ := hb
  obtain ⟨g, o, rfl, hlt, hc⟩ := h4 (by simp)
  have hc0 := hc 0 (by simp)
  simp only [Nat.add_zero, List.getD_cons_zero] at hc0
  have r0 := h3 x0 (by simp)
  have hlen1 : [x0].length = 1 := rfl
  rw [hlen1]
  rw [hlen1] at h1 HB
  clear h3 h4 hc hlen1
  have HR : Hid (read86S [x0] = scanS [x0] ((List.range 256).map Int.ofNat)) := Lib.hid (by unfold read86S secsS; simp)
  go_enter Tryz.func70, Tryz.ntmps70
  go_wp2
  go_loopw [29, 5] (fun i v wr => ∃ k, k ≤ 255 ∧ i = .int .i64 (k : Nat) ∧ OwnB wr (w.heap.size + 1) v ((List.range (k + 1)).map Int.ofNat) ∧ Ext (w.alloc (.cells #[.int .i64 0, .int .i64 0, .int .i64 0, .int .u16 0] 101)) wr) (fun i _ _ => 255 - (intOf i).toNat)
  case atStart => exact ⟨0, by omega, rfl, OwnB.one (w.alloc (.cells #[.int .i64 0, .int .i64 0, .int .i64 0, .int .u16 0] 101)) (w.heap.size + 1) _ (by simp) (by simp) 0, (Ext.refl _).alloc _⟩
  case round =>
    obtain ⟨k, hk, rfl, hO, E⟩ := hrel
    have hlen : ((List.range (k + 1)).map Int.ofNat).length = k + 1 := by simp
    obtain ⟨gs, cs, rfl, hgb⟩ := hO.sliceN hlen (by omega)
    by_cases hlt2 : k < 255
    · have HOA := Lib.hid (show wr.ownsRow (w.heap.size + 1) 5 1 (.slice (some ⟨gs, 0, none⟩) (k + 1) cs) (k + 1) (((List.range (k + 1)).map Int.ofNat).map (Value.int .u8)) from by have := hO; unfold OwnB at this; rw [hlen] at this; exact this)
      have HL2 : Hid (((List.range (k + 2)).map Int.ofNat).length = k + 2) := Lib.hid (by simp)
      clear hO
      have szr := E.size
      simp at szr
      go_wp2_with (at_builtin; refine wpList_append_own_at _ rfl _ _ _ rfl (w.heap.size + 1) 5 i0 _ 1 1 Tryz.underlying22 hi0 hz0 hz1 hz2 rfl (by omega) (.slice (some ⟨gs, 0, none⟩) (k + 1) cs) (k + 1) _ (by rfl) (World.ownsRow.alloc HOA.out _) ⟨wr.heap.size, 0, none⟩ 1 1 [.int .u8 (k + 1)] (by rfl) (by rfl) (World.news_of_block (cs := #[.int .u8 (k + 1)]) (t := 5) (fr := (0, 0)) (heap_alloc_new _ _)) (by simp [Value.oneCell']) (by unfold maxLen; omega) (by omega) (by simp; omega) ?_; intro v7 w7 hown7 hgrow _ _)
      have HG7 := Lib.hid hgrow
      have HO7 := Lib.hid hown7
      clear hown7 hgrow
      go_wp2
      go_roundw
      case rel =>
        refine ⟨k + 1, by omega, by go_num, ?_, ?_⟩
        · unfold OwnB
          rw [HL2.out]
          have hh := HO7.out
          simpa [List.range_succ] using hh
        · exact ext_grown (E.alloc _) HG7.out (by intro q hq; simp [Value.ownBlock] at hq; simp; omega)
      case measure => simp [intOf]; omega
    · obtain rfl : k = 255 := by omega
      have hcell : ∀ j, j < 256 → wr.cell? ⟨gs, 0 + j, none⟩ = some (.int .u8 (j : Nat)) := fun j hj => by
        rw [Nat.zero_add]
        exact own_cell hO (by simp [List.getElem?_eq_getElem, hj])
      have HCS := Lib.hid hcell
      clear hcell hO
      rw [show (255 + 1 : Nat) = 256 from rfl, show ((255 : Nat) : Int) = 255 from rfl]
      go_wp2
      go_loopw [41] (fun i wq => ∃ k, k ≤ 256 ∧ i = .int .i64 (k : Nat) ∧ Ext wr wq ∧ Hid (scanS [x0] ((List.range 256).map Int.ofNat) = scanS [x0] (((List.range 256).map Int.ofNat).drop k))) (fun i _ => 256 - (intOf i).toNat)
      case atStart => exact ⟨0, by omega, rfl, Ext.refl _, Lib.hid rfl⟩
      case round =>
        have EW := E
        obtain ⟨k, hk, rfl, E, HSC⟩ := hrel
        have BR := ((Blk.new w #[.int .i64 0, .int .i64 0, .int .i64 0, .int .u16 0] 101).ext EW).ext E
        have E0 := (((Ext.refl w).alloc (.cells #[.int .i64 0, .int .i64 0, .int .i64 0, .int .u16 0] 101)).trans EW).trans E
        by_cases hlt : k < 256
        · have ka := E.cell (HCS.out k hlt)
          rw [Nat.zero_add] at ka
          have HSC2 := Lib.hid (HSC.out.trans (congrArg (scanS [x0]) (secs_drop k hlt)))
          have kb0 := E0.cell hc0
          have r1 : 0 ≤ (k : Int) ∧ (k : Int) ≤ 255 := by omega
          obtain ⟨⟨op, d, s⟩, hG⟩ : ∃ r, guessS x0 (k : Int) = r := ⟨_, rfl⟩
          have hop := guessS_op x0 (k : Int) r0.1 r0.2 r1.1 r1.2
          rw [hG] at hop
          simp only at hop
          obtain ⟨⟨l, t⟩, hH⟩ : ∃ r, headsS op d s = r := ⟨_, rfl⟩
          have hHD : hdS [x0] (k : Int) = (l, t) := by simp only [hdS, List.getD_cons_zero, hG, hH]
          have HD := Lib.hid hHD
          have HG := Lib.hid hG; have HH := Lib.hid hH
          have hll := headsS_len op d s
          rw [hH] at hll
          clear hG hH hHD HSC
          rcases short_cases hll with rfl | ⟨x, rfl⟩ | ⟨x, y, rfl⟩
          · skip
            have HNX : Hid (scanS [x0] ((List.range 256).map Int.ofNat) = scanS [x0] (((List.range 256).map Int.ofNat).drop (k + 1))) := Lib.hid (by rw [HSC2.out, scan_skip (by rw [HD.out]; simp [hitN])])
            have hmin : min (0 : Int) (1 : Int) = 0 := by omega
            go_wp2_with (first
              | (go_at_call 114; ((with_reducible refine (guess_any x0 (k : Nat) r0.1 r0.2 r1.1 r1.2 _).mono ?_); rw [HG.out]; rintro e w1 ⟨rfl, hx1⟩))
              | (go_at_call 115; ((with_reducible refine (heads_any op d s hop.1 hop.2 _).mono ?_); rw [HH.out]; rintro e w2 ⟨A2, c2, rfl, hby2, hx2⟩; have E2 := E0.trans (hx1.trans hx2); have B2 := Blk.new w2 #[.slice A2 0 c2, .int .i64 t] 137)))
            go_quiet (fail)
            go_wp2
            go_roundw
            case rel => exact ⟨k + 1, by omega, by go_num, ((E.trans (hx1.trans hx2)).alloc _).drewN _, HNX⟩
            case measure => simp [intOf]; omega
          · by_cases hxx : x = x0
            · have hxx2 := hxx.symm; subst hxx2; clear hxx
              by_cases hsz : hsizeS ((1 : Nat) : Int) t = 1
              · skip
                have HSZ := Lib.hid hsz
                have t1 : (t == 1) = false := by simp; rintro rfl; simp [hsizeS] at hsz
                have t2 : (t == 2) = false := by simp; rintro rfl; simp [hsizeS] at hsz
                have t3 : (t == 3) = false := by simp; rintro rfl; simp [hsizeS] at hsz
                clear hsz
                have hszL : (1 : Int) ≤ 1 := by omega
                have HE : Hid (([x0].take 1 == [x0].take 1) = true) := Lib.hid (by simp)
                have HRES : Hid (read86S [x0] = ⟨op, d, s, 0, 1, 0⟩) := Lib.hid (by rw [HR.out, HSC2.out, scan_hit (by rw [HD.out]; simp [hitN])]; unfold takeS; rw [HD.out]; rw [if_neg (by show ¬ (1 : Int) < hsizeS ((1 : Nat) : Int) t; rw [HSZ.out]; decide)]; simp only [List.getD_cons_zero, HG.out]; show R86.mk op d s (valS _ 1 t) (hsizeS ((1 : Nat) : Int) t) 0 = _; rw [HSZ.out]; unfold valS; rw [if_neg (by simpa using t1), if_neg (by simpa using t3), if_neg (by simpa using t2)])
                by_cases hcne : c = 1
                · subst hcne
                  have hmin : min (1 : Int) (1 : Int) = 1 := by omega
                  go_wp2_with (first
                    | (go_at_call 114; ((with_reducible refine (guess_any x0 (k : Nat) r0.1 r0.2 r1.1 r1.2 _).mono ?_); rw [HG.out]; rintro e w1 ⟨rfl, hx1⟩))
                    | (go_at_call 115; ((with_reducible refine (heads_any op d s hop.1 hop.2 _).mono ?_); rw [HH.out]; rintro e w2 ⟨A2, c2, rfl, hby2, hx2⟩; have E2 := E0.trans (hx1.trans hx2); have B2 := Blk.new w2 #[.slice A2 1 c2, .int .i64 t] 137)))
                  have HBY := Lib.hid hby2
                  obtain ⟨A2', c2', hv2, hcc2, hcc2', hrr2, hcell2⟩ := hby2
                  obtain ⟨b2, o2, hA2, hlt2, hce2⟩ := hcell2 (by simp)
                  injection hv2 with e1 e2 e3
                  subst e1 e3 hA2
                  have kh1 := (((Ext.refl w2).alloc (.cells #[.slice (some ⟨b2, o2, none⟩) 1 c2, .int .i64 t] 137)).cell (hce2 (1 - 1) (by simp)))
                  simp at kh1
                  have q1 : (1 : Int) ≤ (c2 : Int) := by simp at hcc2; omega
                  have q2 : (1 : Int) ≤ (1 : Int) := by omega
                  clear hcell2 hce2 hcc2 hcc2' e2 hrr2
                  have H116 : ∀ n, Calls Tryz.prog 116 #[.slice (some ⟨b2, o2, none⟩) 1 c2, .slice (some ⟨g, o, none⟩) 1 1] ((w2.alloc (.cells #[.slice (some ⟨b2, o2, none⟩) 1 c2, .int .i64 t] 137)).drewN n) fun e w' => e = .returned (.bool true) ∧ ∃ m, w' = (w2.alloc (.cells #[.slice (some ⟨b2, o2, none⟩) 1 c2, .int .i64 t] 137)).drewN m := fun n => by
                    refine Calls.quiet_of ?_
                    have hh := equal116_any ([x0].take 1) ([x0].take 1) _ _ ((w2.alloc (.cells #[.slice (some ⟨b2, o2, none⟩) 1 c2, .int .i64 t] 137)).drewN n) (((HBY.out.take (by simp)).ext ((Ext.refl w2).alloc _)).ext ((Ext.refl _).drewN n)) (((HB.out.take (by simp)).ext (E2.alloc _)).ext ((Ext.refl _).drewN n)) (by simp) (by simp)
                    refine hh.mono ?_
                    rintro e w' ⟨rfl, hm⟩
                    exact ⟨by rw [HE.out], hm⟩
                  go_quiet ((go_at_call 116; exact H116 _))
                  go_wp2_with (go_at_call 117; ((with_reducible refine (hsize_any t _ 1 c2 (by omega) _).mono ?_); rw [HSZ.out]; rintro e w3 ⟨rfl, hx3⟩; have B3 := (B2.drewN nq).ext hx3; have k3 := B3.cell; have R3 := ((((BR.ext hx1).ext hx2).alloc (.cells #[.slice (some ⟨b2, o2, none⟩) 1 c2, .int .i64 t] 137)).drewN nq).ext hx3; have kr := R3.cell; have fr := R3.frozen; have E3 := ((E2.alloc (.cells #[.slice (some ⟨b2, o2, none⟩) 1 c2, .int .i64 t] 137)).drewN nq).trans hx3))
                  go_region_held3 (fun W => W.cell? ⟨w2.heap.size, 0, none⟩ = some (.slice (some ⟨b2, o2, none⟩) 1 c2) ∧ W.cell? ⟨w2.heap.size, 1, none⟩ = some (.int .i64 t)) (first | go_keep | (with_reducible exact ⟨hxa.cell (And.left ‹_ ∧ _›), hxa.cell (And.right ‹_ ∧ _›)⟩))
                    (first
                     | (go_at_call 117; ((with_reducible refine (hsize_any t _ 1 c2 (by omega) _).mono ?_); rw [HSZ.out]; rintro e w4 ⟨rfl, hxa⟩; have hx4 := hxa)))
                  have B4 := ((Blk.new w3 #[.int .i64 op, .int .i64 d, .int .i64 s, .int .u16 0] 101).drew).ext hx4
                  have B42 := ((B3.alloc (.cells #[.int .i64 op, .int .i64 d, .int .i64 s, .int .u16 0] 101)).drew).ext hx4
                  have R4 := ((R3.alloc (.cells #[.int .i64 op, .int .i64 d, .int .i64 s, .int .u16 0] 101)).drew).ext hx4
                  have E4 := ((E3.alloc (.cells #[.int .i64 op, .int .i64 d, .int .i64 s, .int .u16 0] 101)).drew).trans hx4
                  have k40 := B4.cell
                  have f40 := B4.frozen
                  have k42 := B42.cell
                  go_wp2
                  have lt3 := B3.lt
                  have ltr := R3.lt
                  have Bp := B4
                  have kp := Bp.cell
                  have Bq := B42
                  have kq := Bq.cell
                  have Rq := R4
                  have Eq := E4
                  have ne3 : w3.heap.size ≠ w.heap.size := by omega
                  have ne2 : w2.heap.size ≠ w.heap.size := by have := ((BR.ext hx1).ext hx2).lt; omega
                  clear k40 f40 k42 k3 kr fr
                  go_region_held3 (fun W => W.cell? ⟨w3.heap.size, 0, none⟩ = some (.int .i64 op) ∧ W.cell? ⟨w3.heap.size, 1, none⟩ = some (.int .i64 d) ∧ W.cell? ⟨w3.heap.size, 2, none⟩ = some (.int .i64 s) ∧ W.cell? ⟨w3.heap.size, 3, none⟩ = some (.int .u16 0) ∧ W.cell? ⟨w2.heap.size, 0, none⟩ = some (.slice (some ⟨b2, o2, none⟩) 1 c2) ∧ W.cell? ⟨w2.heap.size, 1, none⟩ = some (.int .i64 t))
                    (first | exact ⟨kp 0, kp 1, kp 2, kp 3, kq 0, kq 1⟩ | go_keep | (with_reducible exact ⟨hxb.cell (And.left ‹_ ∧ _›), hxb.cell (And.left (And.right ‹_ ∧ _›)), hxb.cell (And.left (And.right (And.right ‹_ ∧ _›))), hxb.cell (And.left (And.right (And.right (And.right ‹_ ∧ _›)))), hxb.cell (And.left (And.right (And.right (And.right (And.right ‹_ ∧ _›))))), hxb.cell (And.right (And.right (And.right (And.right (And.right ‹_ ∧ _›)))))⟩) | (with_reducible exact ⟨cell_put4 (And.left ‹_ ∧ _›) ne3, cell_put4 (And.left (And.right ‹_ ∧ _›)) ne3, cell_put4 (And.left (And.right (And.right ‹_ ∧ _›))) ne3, cell_put4 (And.left (And.right (And.right (And.right ‹_ ∧ _›)))) ne3, cell_put4 (And.left (And.right (And.right (And.right (And.right ‹_ ∧ _›))))) ne2, cell_put4 (And.right (And.right (And.right (And.right (And.right ‹_ ∧ _›))))) ne2⟩))
                    (first
                     | (go_at_call 117; ((with_reducible refine (hsize_any t _ 1 c2 (by omega) _).mono ?_); rw [HSZ.out]; rintro e w5 ⟨rfl, hxb⟩; have hx5 := hxb; have R5 := (Rq.drew).ext hx5; have k5 := R5.cell; have f5 := R5.frozen)))
                  go_wp2
                  have Rf := ((((R5.put 0 (.int .i64 op)).put 1 (.int .i64 d)).put 2 (.int .i64 s)).put 3 (.int .u16 0))
                  have kf := Rf.cell
                  have Ef := ((((Eq.drew.trans hx5).setCell (Nat.le_refl _) (p := ⟨w.heap.size, 0, none⟩) (.int .i64 op)).setCell (Nat.le_refl _) (p := ⟨w.heap.size, 1, none⟩) (.int .i64 d)).setCell (Nat.le_refl _) (p := ⟨w.heap.size, 2, none⟩) (.int .i64 s)).setCell (Nat.le_refl _) (p := ⟨w.heap.size, 3, none⟩) (.int .u16 0)
                  refine bodyPost_ret (v := .tuple #[.agg #[.int .i64 op, .int .i64 d, .int .i64 s, .int .u16 0], .int .i64 1, .int .i64 0]) (by simp (maxDischargeDepth := 9) [results, Tryz.results70, go_sem, kf]) rfl ⟨by rw [HRES.out], Ef⟩
                · skip
                  have hmin : min (1 : Int) (1 : Int) = 1 := by omega
                  go_wp2_with (first
                    | (go_at_call 114; ((with_reducible refine (guess_any x0 (k : Nat) r0.1 r0.2 r1.1 r1.2 _).mono ?_); rw [HG.out]; rintro e w1 ⟨rfl, hx1⟩))
                    | (go_at_call 115; ((with_reducible refine (heads_any op d s hop.1 hop.2 _).mono ?_); rw [HH.out]; rintro e w2 ⟨A2, c2, rfl, hby2, hx2⟩; have E2 := E0.trans (hx1.trans hx2); have B2 := Blk.new w2 #[.slice A2 1 c2, .int .i64 t] 137)))
                  have HBY := Lib.hid hby2
                  obtain ⟨A2', c2', hv2, hcc2, hcc2', hrr2, hcell2⟩ := hby2
                  obtain ⟨b2, o2, hA2, hlt2, hce2⟩ := hcell2 (by simp)
                  injection hv2 with e1 e2 e3
                  subst e1 e3 hA2
                  have kh1 := (((Ext.refl w2).alloc (.cells #[.slice (some ⟨b2, o2, none⟩) 1 c2, .int .i64 t] 137)).cell (hce2 (1 - 1) (by simp)))
                  simp at kh1
                  have q1 : (1 : Int) ≤ (c2 : Int) := by simp at hcc2; omega
                  have q2 : (1 : Int) ≤ (c : Int) := by omega
                  clear hcell2 hce2 hcc2 hcc2' e2 hrr2
                  have H116 : ∀ n, Calls Tryz.prog 116 #[.slice (some ⟨b2, o2, none⟩) 1 c2, .slice (some ⟨g, o, none⟩) 1 c] ((w2.alloc (.cells #[.slice (some ⟨b2, o2, none⟩) 1 c2, .int .i64 t] 137)).drewN n) fun e w' => e = .returned (.bool true) ∧ ∃ m, w' = (w2.alloc (.cells #[.slice (some ⟨b2, o2, none⟩) 1 c2, .int .i64 t] 137)).drewN m := fun n => by
                    refine Calls.quiet_of ?_
                    have hh := equal116_any ([x0].take 1) ([x0].take 1) _ _ ((w2.alloc (.cells #[.slice (some ⟨b2, o2, none⟩) 1 c2, .int .i64 t] 137)).drewN n) (((HBY.out.take (by simp)).ext ((Ext.refl w2).alloc _)).ext ((Ext.refl _).drewN n)) (((HB.out.take (by simp)).ext (E2.alloc _)).ext ((Ext.refl _).drewN n)) (by simp) (by simp)
                    refine hh.mono ?_
                    rintro e w' ⟨rfl, hm⟩
                    exact ⟨by rw [HE.out], hm⟩
                  go_quiet ((go_at_call 116; exact H116 _))
                  go_wp2_with (go_at_call 117; ((with_reducible refine (hsize_any t _ 1 c2 (by omega) _).mono ?_); rw [HSZ.out]; rintro e w3 ⟨rfl, hx3⟩; have B3 := (B2.drewN nq).ext hx3; have k3 := B3.cell; have R3 := ((((BR.ext hx1).ext hx2).alloc (.cells #[.slice (some ⟨b2, o2, none⟩) 1 c2, .int .i64 t] 137)).drewN nq).ext hx3; have kr := R3.cell; have fr := R3.frozen; have E3 := ((E2.alloc (.cells #[.slice (some ⟨b2, o2, none⟩) 1 c2, .int .i64 t] 137)).drewN nq).trans hx3))
                  go_region_held3 (fun W => W.cell? ⟨w2.heap.size, 0, none⟩ = some (.slice (some ⟨b2, o2, none⟩) 1 c2) ∧ W.cell? ⟨w2.heap.size, 1, none⟩ = some (.int .i64 t)) (first | go_keep | (with_reducible exact ⟨hxa.cell (And.left ‹_ ∧ _›), hxa.cell (And.right ‹_ ∧ _›)⟩))
                    (first
                     | (go_at_call 117; ((with_reducible refine (hsize_any t _ 1 c2 (by omega) _).mono ?_); rw [HSZ.out]; rintro e w4 ⟨rfl, hxa⟩; have hx4 := hxa)))
                  have B4 := ((Blk.new w3 #[.int .i64 op, .int .i64 d, .int .i64 s, .int .u16 0] 101).drew).ext hx4
                  have B42 := ((B3.alloc (.cells #[.int .i64 op, .int .i64 d, .int .i64 s, .int .u16 0] 101)).drew).ext hx4
                  have R4 := ((R3.alloc (.cells #[.int .i64 op, .int .i64 d, .int .i64 s, .int .u16 0] 101)).drew).ext hx4
                  have E4 := ((E3.alloc (.cells #[.int .i64 op, .int .i64 d, .int .i64 s, .int .u16 0] 101)).drew).trans hx4
                  have k40 := B4.cell
                  have f40 := B4.frozen
                  have k42 := B42.cell
                  go_wp2
                  have lt3 := B3.lt
                  have ltr := R3.lt
                  have Bp := B4
                  have kp := Bp.cell
                  have Bq := B42
                  have kq := Bq.cell
                  have Rq := R4
                  have Eq := E4
                  have ne3 : w3.heap.size ≠ w.heap.size := by omega
                  have ne2 : w2.heap.size ≠ w.heap.size := by have := ((BR.ext hx1).ext hx2).lt; omega
                  clear k40 f40 k42 k3 kr fr
                  go_region_held3 (fun W => W.cell? ⟨w3.heap.size, 0, none⟩ = some (.int .i64 op) ∧ W.cell? ⟨w3.heap.size, 1, none⟩ = some (.int .i64 d) ∧ W.cell? ⟨w3.heap.size, 2, none⟩ = some (.int .i64 s) ∧ W.cell? ⟨w3.heap.size, 3, none⟩ = some (.int .u16 0) ∧ W.cell? ⟨w2.heap.size, 0, none⟩ = some (.slice (some ⟨b2, o2, none⟩) 1 c2) ∧ W.cell? ⟨w2.heap.size, 1, none⟩ = some (.int .i64 t))
                    (first | exact ⟨kp 0, kp 1, kp 2, kp 3, kq 0, kq 1⟩ | go_keep | (with_reducible exact ⟨hxb.cell (And.left ‹_ ∧ _›), hxb.cell (And.left (And.right ‹_ ∧ _›)), hxb.cell (And.left (And.right (And.right ‹_ ∧ _›))), hxb.cell (And.left (And.right (And.right (And.right ‹_ ∧ _›)))), hxb.cell (And.left (And.right (And.right (And.right (And.right ‹_ ∧ _›))))), hxb.cell (And.right (And.right (And.right (And.right (And.right ‹_ ∧ _›)))))⟩) | (with_reducible exact ⟨cell_put4 (And.left ‹_ ∧ _›) ne3, cell_put4 (And.left (And.right ‹_ ∧ _›)) ne3, cell_put4 (And.left (And.right (And.right ‹_ ∧ _›))) ne3, cell_put4 (And.left (And.right (And.right (And.right ‹_ ∧ _›)))) ne3, cell_put4 (And.left (And.right (And.right (And.right (And.right ‹_ ∧ _›))))) ne2, cell_put4 (And.right (And.right (And.right (And.right (And.right ‹_ ∧ _›))))) ne2⟩))
                    (first
                     | (go_at_call 117; ((with_reducible refine (hsize_any t _ 1 c2 (by omega) _).mono ?_); rw [HSZ.out]; rintro e w5 ⟨rfl, hxb⟩; have hx5 := hxb; have R5 := (Rq.drew).ext hx5; have k5 := R5.cell; have f5 := R5.frozen)))
                  go_wp2
                  have Rf := ((((R5.put 0 (.int .i64 op)).put 1 (.int .i64 d)).put 2 (.int .i64 s)).put 3 (.int .u16 0))
                  have kf := Rf.cell
                  have Ef := ((((Eq.drew.trans hx5).setCell (Nat.le_refl _) (p := ⟨w.heap.size, 0, none⟩) (.int .i64 op)).setCell (Nat.le_refl _) (p := ⟨w.heap.size, 1, none⟩) (.int .i64 d)).setCell (Nat.le_refl _) (p := ⟨w.heap.size, 2, none⟩) (.int .i64 s)).setCell (Nat.le_refl _) (p := ⟨w.heap.size, 3, none⟩) (.int .u16 0)
                  refine bodyPost_ret (v := .tuple #[.agg #[.int .i64 op, .int .i64 d, .int .i64 s, .int .u16 0], .int .i64 1, .int .i64 0]) (by simp (maxDischargeDepth := 9) [results, Tryz.results70, go_sem, kf]) rfl ⟨by rw [HRES.out], Ef⟩
              · skip
                generalize hzz : hsizeS ((1 : Nat) : Int) t = z at *
                have HSZ := Lib.hid hzz
                have hS : (1 : Int) < z := by have := hzz; unfold hsizeS at this; split at this <;> (try split at this) <;> omega
                have HE : Hid (([x0].take 1 == [x0].take 1) = true) := Lib.hid (by simp)
                have HRES : Hid (read86S [x0] = ⟨0, 0, 0, 0, 0, 2⟩) := Lib.hid (by rw [HR.out, HSC2.out, scan_hit (by rw [HD.out]; simp [hitN])]; unfold takeS; rw [HD.out]; rw [if_pos (by show (1 : Int) < hsizeS ((1 : Nat) : Int) t; rw [HSZ.out]; exact hS)])
                clear hzz hsz
                have hmin : min (1 : Int) (1 : Int) = 1 := by omega
                go_wp2_with (first
                  | (go_at_call 114; ((with_reducible refine (guess_any x0 (k : Nat) r0.1 r0.2 r1.1 r1.2 _).mono ?_); rw [HG.out]; rintro e w1 ⟨rfl, hx1⟩))
                  | (go_at_call 115; ((with_reducible refine (heads_any op d s hop.1 hop.2 _).mono ?_); rw [HH.out]; rintro e w2 ⟨A2, c2, rfl, hby2, hx2⟩; have E2 := E0.trans (hx1.trans hx2); have B2 := Blk.new w2 #[.slice A2 1 c2, .int .i64 t] 137)))
                have HBY := Lib.hid hby2
                obtain ⟨A2', c2', hv2, hcc2, hcc2', hrr2, hcell2⟩ := hby2
                obtain ⟨b2, o2, hA2, hlt2, hce2⟩ := hcell2 (by simp)
                injection hv2 with e1 e2 e3
                subst e1 e3 hA2
                have kh1 := (((Ext.refl w2).alloc (.cells #[.slice (some ⟨b2, o2, none⟩) 1 c2, .int .i64 t] 137)).cell (hce2 (1 - 1) (by simp)))
                simp at kh1
                have q1 : (1 : Int) ≤ (c2 : Int) := by simp at hcc2; omega
                have q2 : (1 : Int) ≤ (c : Int) := by omega
                clear hcell2 hce2 hcc2 hcc2' e2 hrr2
                have H116 : ∀ n, Calls Tryz.prog 116 #[.slice (some ⟨b2, o2, none⟩) 1 c2, .slice (some ⟨g, o, none⟩) 1 c] ((w2.alloc (.cells #[.slice (some ⟨b2, o2, none⟩) 1 c2, .int .i64 t] 137)).drewN n) fun e w' => e = .returned (.bool true) ∧ ∃ m, w' = (w2.alloc (.cells #[.slice (some ⟨b2, o2, none⟩) 1 c2, .int .i64 t] 137)).drewN m := fun n => by
                  refine Calls.quiet_of ?_
                  have hh := equal116_any ([x0].take 1) ([x0].take 1) _ _ ((w2.alloc (.cells #[.slice (some ⟨b2, o2, none⟩) 1 c2, .int .i64 t] 137)).drewN n) (((HBY.out.take (by simp)).ext ((Ext.refl w2).alloc _)).ext ((Ext.refl _).drewN n)) (((HB.out.take (by simp)).ext (E2.alloc _)).ext ((Ext.refl _).drewN n)) (by simp) (by simp)
                  refine hh.mono ?_
                  rintro e w' ⟨rfl, hm⟩
                  exact ⟨by rw [HE.out], hm⟩
                go_quiet ((go_at_call 116; exact H116 _))
                go_wp2_with (go_at_call 117; ((with_reducible refine (hsize_any t _ 1 c2 (by omega) _).mono ?_); rw [HSZ.out]; rintro e w3 ⟨rfl, hx3⟩; have B3 := (B2.drewN nq).ext hx3; have k3 := B3.cell; have R3 := ((((BR.ext hx1).ext hx2).alloc (.cells #[.slice (some ⟨b2, o2, none⟩) 1 c2, .int .i64 t] 137)).drewN nq).ext hx3; have kr := R3.cell; have fr := R3.frozen; have E3 := ((E2.alloc (.cells #[.slice (some ⟨b2, o2, none⟩) 1 c2, .int .i64 t] 137)).drewN nq).trans hx3))
                have Rf := ((((R3.put 0 (.int .i64 0)).put 1 (.int .i64 0)).put 2 (.int .i64 0)).put 3 (.int .u16 0))
                have kf := Rf.cell
                refine bodyPost_ret (v := .tuple #[.agg #[.int .i64 0, .int .i64 0, .int .i64 0, .int .u16 0], .int .i64 0, .int .i64 2]) (by first | (simp (maxDischargeDepth := 9) [results, Tryz.results70, go_sem, kr]; done) | (simp (maxDischargeDepth := 9) [results, Tryz.results70, go_sem, kf]; done)) rfl ⟨by rw [HRES.out], ?_⟩
                repeat (first | exact E3 | (refine Ext.setCell ?_ (Nat.le_refl _) _))
            · skip
              have HE : Hid (([x].take 1 == [x0].take 1) = false) := Lib.hid (by simp [hxx])
              have HNX : Hid (scanS [x0] ((List.range 256).map Int.ofNat) = scanS [x0] (((List.range 256).map Int.ofNat).drop (k + 1))) := Lib.hid (by rw [HSC2.out, scan_skip (by rw [HD.out]; simp [hitN, hxx])])
              clear hxx
              have hmin : min (1 : Int) (1 : Int) = 1 := by omega
              go_wp2_with (first
                | (go_at_call 114; ((with_reducible refine (guess_any x0 (k : Nat) r0.1 r0.2 r1.1 r1.2 _).mono ?_); rw [HG.out]; rintro e w1 ⟨rfl, hx1⟩))
                | (go_at_call 115; ((with_reducible refine (heads_any op d s hop.1 hop.2 _).mono ?_); rw [HH.out]; rintro e w2 ⟨A2, c2, rfl, hby2, hx2⟩; have E2 := E0.trans (hx1.trans hx2); have B2 := Blk.new w2 #[.slice A2 1 c2, .int .i64 t] 137)))
              have HBY := Lib.hid hby2
              obtain ⟨A2', c2', hv2, hcc2, hcc2', hrr2, hcell2⟩ := hby2
              obtain ⟨b2, o2, hA2, hlt2, hce2⟩ := hcell2 (by simp)
              injection hv2 with e1 e2 e3
              subst e1 e3 hA2
              have kh1 := (((Ext.refl w2).alloc (.cells #[.slice (some ⟨b2, o2, none⟩) 1 c2, .int .i64 t] 137)).cell (hce2 (1 - 1) (by simp)))
              simp at kh1
              have q1 : (1 : Int) ≤ (c2 : Int) := by simp at hcc2; omega
              have q2 : (1 : Int) ≤ (c : Int) := by omega
              clear hcell2 hce2 hcc2 hcc2' e2 hrr2
              have H116 : ∀ n, Calls Tryz.prog 116 #[.slice (some ⟨b2, o2, none⟩) 1 c2, .slice (some ⟨g, o, none⟩) 1 c] ((w2.alloc (.cells #[.slice (some ⟨b2, o2, none⟩) 1 c2, .int .i64 t] 137)).drewN n) fun e w' => e = .returned (.bool false) ∧ ∃ m, w' = (w2.alloc (.cells #[.slice (some ⟨b2, o2, none⟩) 1 c2, .int .i64 t] 137)).drewN m := fun n => by
                refine Calls.quiet_of ?_
                have hh := equal116_any ([x].take 1) ([x0].take 1) _ _ ((w2.alloc (.cells #[.slice (some ⟨b2, o2, none⟩) 1 c2, .int .i64 t] 137)).drewN n) (((HBY.out.take (by simp)).ext ((Ext.refl w2).alloc _)).ext ((Ext.refl _).drewN n)) (((HB.out.take (by simp)).ext (E2.alloc _)).ext ((Ext.refl _).drewN n)) (by simp) (by simp)
                refine hh.mono ?_
                rintro e w' ⟨rfl, hm⟩
                exact ⟨by rw [HE.out], hm⟩
              go_quiet ((go_at_call 116; exact H116 _))
              go_wp2
              go_roundw
              case rel => exact ⟨k + 1, by omega, by go_num, ((E.trans (hx1.trans hx2)).alloc _).drewN _, HNX⟩
              case measure => simp [intOf]; omega
          · by_cases hxx : x = x0
            · have hxx2 := hxx.symm; subst hxx2; clear hxx
              have HE : Hid (([x0, y].take 1 == [x0].take 1) = true) := Lib.hid (by simp)
              by_cases hyk : y = (k : Nat)
              · skip
                subst hyk
                obtain ⟨z, hzz⟩ : ∃ z, hsizeS ((2 : Nat) : Int) t = z := ⟨_, rfl⟩
                have HSZ := Lib.hid hzz
                have hS : (1 : Int) < z := by have := hzz; unfold hsizeS at this; split at this <;> (try split at this) <;> omega
                have HRES : Hid (read86S [x0] = ⟨0, 0, 0, 0, 0, 2⟩) := Lib.hid (by rw [HR.out, HSC2.out, scan_hit (by rw [HD.out]; simp [hitN])]; unfold takeS; rw [HD.out]; rw [if_pos (by show (1 : Int) < hsizeS ((2 : Nat) : Int) t; rw [HSZ.out]; exact hS)])
                clear hzz
                have hmin : min (2 : Int) (1 : Int) = 1 := by omega
                go_wp2_with (first
                  | (go_at_call 114; ((with_reducible refine (guess_any x0 (k : Nat) r0.1 r0.2 r1.1 r1.2 _).mono ?_); rw [HG.out]; rintro e w1 ⟨rfl, hx1⟩))
                  | (go_at_call 115; ((with_reducible refine (heads_any op d s hop.1 hop.2 _).mono ?_); rw [HH.out]; rintro e w2 ⟨A2, c2, rfl, hby2, hx2⟩; have E2 := E0.trans (hx1.trans hx2); have B2 := Blk.new w2 #[.slice A2 2 c2, .int .i64 t] 137)))
                have HBY := Lib.hid hby2
                obtain ⟨A2', c2', hv2, hcc2, hcc2', hrr2, hcell2⟩ := hby2
                obtain ⟨b2, o2, hA2, hlt2, hce2⟩ := hcell2 (by simp)
                injection hv2 with e1 e2 e3
                subst e1 e3 hA2
                have kh1 := (((Ext.refl w2).alloc (.cells #[.slice (some ⟨b2, o2, none⟩) 2 c2, .int .i64 t] 137)).cell (hce2 (2 - 1) (by simp)))
                simp at kh1
                have q1 : (1 : Int) ≤ (c2 : Int) := by simp at hcc2; omega
                have q2 : (1 : Int) ≤ (c : Int) := by omega
                clear hcell2 hce2 hcc2 hcc2' e2 hrr2
                have H116 : ∀ n, Calls Tryz.prog 116 #[.slice (some ⟨b2, o2, none⟩) 1 c2, .slice (some ⟨g, o, none⟩) 1 c] ((w2.alloc (.cells #[.slice (some ⟨b2, o2, none⟩) 2 c2, .int .i64 t] 137)).drewN n) fun e w' => e = .returned (.bool true) ∧ ∃ m, w' = (w2.alloc (.cells #[.slice (some ⟨b2, o2, none⟩) 2 c2, .int .i64 t] 137)).drewN m := fun n => by
                  refine Calls.quiet_of ?_
                  have hh := equal116_any ([x0, (k : Int)].take 1) ([x0].take 1) _ _ ((w2.alloc (.cells #[.slice (some ⟨b2, o2, none⟩) 2 c2, .int .i64 t] 137)).drewN n) (((HBY.out.take (by simp)).ext ((Ext.refl w2).alloc _)).ext ((Ext.refl _).drewN n)) (((HB.out.take (by simp)).ext (E2.alloc _)).ext ((Ext.refl _).drewN n)) (by simp) (by simp)
                  refine hh.mono ?_
                  rintro e w' ⟨rfl, hm⟩
                  exact ⟨by rw [HE.out], hm⟩
                go_quiet ((go_at_call 116; exact H116 _))
                go_wp2_with (go_at_call 117; ((with_reducible refine (hsize_any t _ 2 c2 (by omega) _).mono ?_); rw [HSZ.out]; rintro e w3 ⟨rfl, hx3⟩; have B3 := (B2.drewN nq).ext hx3; have k3 := B3.cell; have R3 := ((((BR.ext hx1).ext hx2).alloc (.cells #[.slice (some ⟨b2, o2, none⟩) 2 c2, .int .i64 t] 137)).drewN nq).ext hx3; have kr := R3.cell; have fr := R3.frozen; have E3 := ((E2.alloc (.cells #[.slice (some ⟨b2, o2, none⟩) 2 c2, .int .i64 t] 137)).drewN nq).trans hx3))
                have Rf := ((((R3.put 0 (.int .i64 0)).put 1 (.int .i64 0)).put 2 (.int .i64 0)).put 3 (.int .u16 0))
                have kf := Rf.cell
                refine bodyPost_ret (v := .tuple #[.agg #[.int .i64 0, .int .i64 0, .int .i64 0, .int .u16 0], .int .i64 0, .int .i64 2]) (by first | (simp (maxDischargeDepth := 9) [results, Tryz.results70, go_sem, kr]; done) | (simp (maxDischargeDepth := 9) [results, Tryz.results70, go_sem, kf]; done)) rfl ⟨by rw [HRES.out], ?_⟩
                repeat (first | exact E3 | (refine Ext.setCell ?_ (Nat.le_refl _) _))
              · skip
                have hyk2 : (y == (k : Int)) = false := by simpa using hyk
                have HNX : Hid (scanS [x0] ((List.range 256).map Int.ofNat) = scanS [x0] (((List.range 256).map Int.ofNat).drop (k + 1))) := Lib.hid (by rw [HSC2.out, scan_skip (by rw [HD.out]; simp [hitN, hyk])])
                clear hyk
                have hmin : min (2 : Int) (1 : Int) = 1 := by omega
                go_wp2_with (first
                  | (go_at_call 114; ((with_reducible refine (guess_any x0 (k : Nat) r0.1 r0.2 r1.1 r1.2 _).mono ?_); rw [HG.out]; rintro e w1 ⟨rfl, hx1⟩))
                  | (go_at_call 115; ((with_reducible refine (heads_any op d s hop.1 hop.2 _).mono ?_); rw [HH.out]; rintro e w2 ⟨A2, c2, rfl, hby2, hx2⟩; have E2 := E0.trans (hx1.trans hx2); have B2 := Blk.new w2 #[.slice A2 2 c2, .int .i64 t] 137)))
                have HBY := Lib.hid hby2
                obtain ⟨A2', c2', hv2, hcc2, hcc2', hrr2, hcell2⟩ := hby2
                obtain ⟨b2, o2, hA2, hlt2, hce2⟩ := hcell2 (by simp)
                injection hv2 with e1 e2 e3
                subst e1 e3 hA2
                have kh1 := (((Ext.refl w2).alloc (.cells #[.slice (some ⟨b2, o2, none⟩) 2 c2, .int .i64 t] 137)).cell (hce2 (2 - 1) (by simp)))
                simp at kh1
                have q1 : (1 : Int) ≤ (c2 : Int) := by simp at hcc2; omega
                have q2 : (1 : Int) ≤ (c : Int) := by omega
                clear hcell2 hce2 hcc2 hcc2' e2 hrr2
                have H116 : ∀ n, Calls Tryz.prog 116 #[.slice (some ⟨b2, o2, none⟩) 1 c2, .slice (some ⟨g, o, none⟩) 1 c] ((w2.alloc (.cells #[.slice (some ⟨b2, o2, none⟩) 2 c2, .int .i64 t] 137)).drewN n) fun e w' => e = .returned (.bool true) ∧ ∃ m, w' = (w2.alloc (.cells #[.slice (some ⟨b2, o2, none⟩) 2 c2, .int .i64 t] 137)).drewN m := fun n => by
                  refine Calls.quiet_of ?_
                  have hh := equal116_any ([x0, y].take 1) ([x0].take 1) _ _ ((w2.alloc (.cells #[.slice (some ⟨b2, o2, none⟩) 2 c2, .int .i64 t] 137)).drewN n) (((HBY.out.take (by simp)).ext ((Ext.refl w2).alloc _)).ext ((Ext.refl _).drewN n)) (((HB.out.take (by simp)).ext (E2.alloc _)).ext ((Ext.refl _).drewN n)) (by simp) (by simp)
                  refine hh.mono ?_
                  rintro e w' ⟨rfl, hm⟩
                  exact ⟨by rw [HE.out], hm⟩
                go_quiet ((go_at_call 116; exact H116 _))
                go_wp2
                go_roundw
                case rel => exact ⟨k + 1, by omega, by go_num, ((E.trans (hx1.trans hx2)).alloc _).drewN _, HNX⟩
                case measure => simp [intOf]; omega
            · skip
              have HE : Hid (([x, y].take 1 == [x0].take 1) = false) := Lib.hid (by simp [hxx])
              have HNX : Hid (scanS [x0] ((List.range 256).map Int.ofNat) = scanS [x0] (((List.range 256).map Int.ofNat).drop (k + 1))) := Lib.hid (by rw [HSC2.out, scan_skip (by rw [HD.out]; simp [hitN, hxx])])
              clear hxx
              have hmin : min (2 : Int) (1 : Int) = 1 := by omega
              go_wp2_with (first
                | (go_at_call 114; ((with_reducible refine (guess_any x0 (k : Nat) r0.1 r0.2 r1.1 r1.2 _).mono ?_); rw [HG.out]; rintro e w1 ⟨rfl, hx1⟩))
                | (go_at_call 115; ((with_reducible refine (heads_any op d s hop.1 hop.2 _).mono ?_); rw [HH.out]; rintro e w2 ⟨A2, c2, rfl, hby2, hx2⟩; have E2 := E0.trans (hx1.trans hx2); have B2 := Blk.new w2 #[.slice A2 2 c2, .int .i64 t] 137)))
              have HBY := Lib.hid hby2
              obtain ⟨A2', c2', hv2, hcc2, hcc2', hrr2, hcell2⟩ := hby2
              obtain ⟨b2, o2, hA2, hlt2, hce2⟩ := hcell2 (by simp)
              injection hv2 with e1 e2 e3
              subst e1 e3 hA2
              have kh1 := (((Ext.refl w2).alloc (.cells #[.slice (some ⟨b2, o2, none⟩) 2 c2, .int .i64 t] 137)).cell (hce2 (2 - 1) (by simp)))
              simp at kh1
              have q1 : (1 : Int) ≤ (c2 : Int) := by simp at hcc2; omega
              have q2 : (1 : Int) ≤ (c : Int) := by omega
              clear hcell2 hce2 hcc2 hcc2' e2 hrr2
              have H116 : ∀ n, Calls Tryz.prog 116 #[.slice (some ⟨b2, o2, none⟩) 1 c2, .slice (some ⟨g, o, none⟩) 1 c] ((w2.alloc (.cells #[.slice (some ⟨b2, o2, none⟩) 2 c2, .int .i64 t] 137)).drewN n) fun e w' => e = .returned (.bool false) ∧ ∃ m, w' = (w2.alloc (.cells #[.slice (some ⟨b2, o2, none⟩) 2 c2, .int .i64 t] 137)).drewN m := fun n => by
                refine Calls.quiet_of ?_
                have hh := equal116_any ([x, y].take 1) ([x0].take 1) _ _ ((w2.alloc (.cells #[.slice (some ⟨b2, o2, none⟩) 2 c2, .int .i64 t] 137)).drewN n) (((HBY.out.take (by simp)).ext ((Ext.refl w2).alloc _)).ext ((Ext.refl _).drewN n)) (((HB.out.take (by simp)).ext (E2.alloc _)).ext ((Ext.refl _).drewN n)) (by simp) (by simp)
                refine hh.mono ?_
                rintro e w' ⟨rfl, hm⟩
                exact ⟨by rw [HE.out], hm⟩
              go_quiet ((go_at_call 116; exact H116 _))
              go_wp2
              go_roundw
              case rel => exact ⟨k + 1, by omega, by go_num, ((E.trans (hx1.trans hx2)).alloc _).drewN _, HNX⟩
              case measure => simp [intOf]; omega
        · obtain rfl : k = 256 := by omega
          have k0 := BR.cell
          have f0 := BR.frozen
          go_wp2
          have Rf := ((((BR.put 0 (.int .i64 0)).put 1 (.int .i64 0)).put 2 (.int .i64 0)).put 3 (.int .u16 0))
          have kf := Rf.cell
          refine bodyPost_ret (v := .tuple #[.agg #[.int .i64 0, .int .i64 0, .int .i64 0, .int .u16 0], .int .i64 0, .int .i64 12]) (by first | (simp (maxDischargeDepth := 9) [results, Tryz.results70, go_sem, k0]; done) | (simp (maxDischargeDepth := 9) [results, Tryz.results70, go_sem, kf]; done)) rfl ⟨?_, ?_⟩
          · rw [HR.out, HSC.out]; rfl
          · repeat (first | exact E0 | (refine Ext.setCell ?_ (Nat.le_refl _) _))
end Go.Proofs.YtnklmehphmidhaaGreatDoor
