/- isa80, further: jumps, reading. -/
import Derived.Test.YtnklmehphmidhaaGreatDoorIsd
import Derived.StillTailTactics
namespace Go.Proofs.YtnklmehphmidhaaGreatDoor
open Go.RowKit
set_option maxRecDepth 100000
set_option maxHeartbeats 4000000
set_option linter.unusedSimpArgs false

def jumpsB (op : Int) : Bool := if (op == 195) = true ∨ (op == 205) = true then true else if 0 ≤ condI op then op % 8 != 0 else false
theorem jumps_any (op : Int) (h0 : 0 ≤ op) (h1 : op < 256) (w : World) : Calls Tryz.prog 76 #[.int .u8 op] w (RBool w (jumpsB op)) := by
  generalize hc : condI op = c
  have HC := Lib.hid hc; clear hc
  go_enter Tryz.func76, Tryz.ntmps76
  go_wp2_with (go_at_call 123; refine (condI_any _ (by omega) (by omega) _).mono ?_; rw [HC.out]; rintro e w' ⟨rfl, hx⟩)
  all_goals go_ret
  all_goals refine ⟨?_, by first | exact Ext.refl _ | assumption⟩
  all_goals
    have h := HC.out
    simp [jumpsB, *] <;> omega

/-- v reads as the list l of bytes. -/
def Byts (w : World) (v : Value) (l : List Int) : Prop :=
  ∃ A c, v = .slice A l.length c ∧ l.length ≤ c ∧ c ≤ 140737488351232 ∧ (∀ x ∈ l, 0 ≤ x ∧ x ≤ 255) ∧ (0 < l.length → ∃ b o, A = some ⟨b, o, none⟩ ∧ b < w.heap.size ∧ ∀ j, j < l.length → w.cell? ⟨b, o + j, none⟩ = some (.int .u8 (l.getD j 0)))
theorem Byts.ext {w w' : World} {v : Value} {l : List Int} (h : Byts w v l) (hb : Ext w w') : Byts w' v l := by
  obtain ⟨A, c, hv, h1, h2, hr, h3⟩ := h
  refine ⟨A, c, hv, h1, h2, hr, fun hp => ?_⟩
  obtain ⟨b, o, hA, hlt, hc⟩ := h3 hp
  exact ⟨b, o, hA, Nat.lt_of_lt_of_le hlt hb.size, fun j hj => hb.cell (hc j hj)⟩
theorem getD_range {l : List Int} (h : ∀ x ∈ l, 0 ≤ x ∧ x ≤ 255) (j : Nat) : 0 ≤ l.getD j 0 ∧ l.getD j 0 ≤ 255 := by
  rcases Nat.lt_or_ge j l.length with hj | hj
  · simpa [List.getElem?_eq_getElem hj] using h l[j] (List.getElem_mem hj)
  · simp [List.getElem?_eq_none hj]

theorem sizeL_range (l : List ByteArray) : 0 ≤ sizeL l ∧ sizeL l ≤ 3 := by
  unfold sizeL; split; · decide
  split; · decide
  split <;> decide

/-- What stands at the begin: the opcode, its number, its size, the kind. -/
def readS (b : List Int) : Int × Int × Int × Int :=
  if b.length = 0 then (0, 0, 0, 2)
  else if sizeL (wordsS (b.getD 0 0)) = 0 then (0, 0, 0, 8)
  else if (b.length : Int) < sizeL (wordsS (b.getD 0 0)) then (0, 0, 0, 2)
  else (b.getD 0 0, if sizeL (wordsS (b.getD 0 0)) = 1 then 0 else if sizeL (wordsS (b.getD 0 0)) = 2 then b.getD 1 0 else b.getD 2 0 * 256 + b.getD 1 0, sizeL (wordsS (b.getD 0 0)), 0)

theorem read_any (b : List Int) (v : Value) (w : World) (hb : Byts w v b) : Calls Tryz.prog 75 #[v] w fun e w' => e = .returned (.tuple #[.agg #[.int .u8 (readS b).1, .int .u16 (readS b).2.1], .int .i64 (readS b).2.2.1, .int .i64 (readS b).2.2.2]) ∧ Ext w w' := by
  obtain ⟨A, c, rfl, hc1, hc2, hr, h3⟩ := hb
  by_cases hp : 0 < b.length
  · obtain ⟨g, o, rfl, hlt, hc⟩ := h3 hp
    have hc0 := hc 0 hp
    simp only [Nat.add_zero] at hc0
    have r0 := getD_range hr 0
    generalize hx0 : b.getD 0 0 = x0 at *
    generalize hsz : sizeL (wordsS x0) = sz
    have hszr : 0 ≤ sz ∧ sz ≤ 3 := hsz ▸ sizeL_range _
    generalize hL : b.length = L at *
    have HX0 := Lib.hid hx0; have HS := Lib.hid hsz; have HL := Lib.hid hL
    have hR := Lib.hid hr
    clear hx0 hsz hL hr h3
    have hlk := lt_add hlt
    have hne : ¬ w.heap.size = g := by omega
    have hne' : ¬ g = w.heap.size := by omega
    have hz2 : ((L : Int) == 0) = false := by simp; omega
    have fin : readS b = if sz = 0 then (0, 0, 0, 8) else if (L : Int) < sz then (0, 0, 0, 2) else (x0, if sz = 1 then 0 else if sz = 2 then b.getD 1 0 else b.getD 2 0 * 256 + b.getD 1 0, sz, 0) := by
      unfold readS
      rw [HX0.out, HS.out, HL.out, if_neg (by omega)]
    have FIN := Lib.hid fin; clear fin
    have hz0 : ∀ n : Int, sz = n → sz = 0 ∨ sz = 1 ∨ sz = 2 ∨ sz = 3 := fun n h => by omega
    rcases hz0 _ rfl with hs0 | hs0
    · have HS0 := Lib.hid hs0
      have hz1 : (sz == 0) = true := by simp [hs0]
      clear hs0 hc hz0
      go_enter Tryz.func75, Tryz.ntmps75
      go_wp2_with (go_at_call 15; refine (size_any _ (by omega) (by omega) _).mono ?_; rw [HS.out]; rintro e w' ⟨rfl, hx⟩; have k0 := hx.block.1 0 (.int .u8 0) rfl; have k1 := hx.block.1 1 (.int .u16 0) rfl; have f0 := hx.block.2 0; have f1 := hx.block.2 1; have d0 := (((Ext.refl _).alloc _).trans hx).cell hc0)
      refine bodyPost_ret (v := .tuple #[.agg #[.int .u8 0, .int .u16 0], .int .i64 0, .int .i64 8]) (by simp (maxDischargeDepth := 9) [results, Tryz.results75, go_sem, k0, k1, f0, f1]) rfl ⟨?_, ?_⟩
      · rw [FIN.out, if_pos HS0.out]
      · exact ((Ext.trans ((Ext.refl _).alloc _) hx).setCell (by simp) _).setCell (by simp) _
    · by_cases hls : (L : Int) < sz
      · have HS0 := Lib.hid hs0
        have hz1 : (sz == 0) = false := by rcases hs0 with h | h | h <;> simp [h]
        clear hs0 hc hz0
        go_enter Tryz.func75, Tryz.ntmps75
        go_wp2_with (go_at_call 15; refine (size_any _ (by omega) (by omega) _).mono ?_; rw [HS.out]; rintro e w' ⟨rfl, hx⟩; have k0 := hx.block.1 0 (.int .u8 0) rfl; have k1 := hx.block.1 1 (.int .u16 0) rfl; have f0 := hx.block.2 0; have f1 := hx.block.2 1; have d0 := (((Ext.refl _).alloc _).trans hx).cell hc0)
        refine bodyPost_ret (v := .tuple #[.agg #[.int .u8 0, .int .u16 0], .int .i64 0, .int .i64 2]) (by simp (maxDischargeDepth := 9) [results, Tryz.results75, go_sem, k0, k1, f0, f1]) rfl ⟨?_, ?_⟩
        · have := HS0.out
          rw [FIN.out, if_neg (by omega), if_pos hls]
        · exact ((Ext.trans ((Ext.refl _).alloc _) hx).setCell (by simp) _).setCell (by simp) _
      · have hls' : ¬ (L : Int) < sz := hls
        rcases hs0 with rfl | rfl | rfl
        · clear hz0 hc
          go_enter Tryz.func75, Tryz.ntmps75
          go_wp2_with (go_at_call 15; refine (size_any _ (by omega) (by omega) _).mono ?_; rw [HS.out]; rintro e w' ⟨rfl, hx⟩; have k0 := hx.block.1 0 (.int .u8 0) rfl; have k1 := hx.block.1 1 (.int .u16 0) rfl; have f0 := hx.block.2 0; have f1 := hx.block.2 1; have d0 := (((Ext.refl _).alloc _).trans hx).cell hc0)
          refine wp_loop_rounds 1 ?_
          rw [rounds_succ]
          go_wp2
          refine bodyPost_ret (v := .tuple #[.agg #[.int .u8 x0, .int .u16 0], .int .i64 1, .int .i64 0]) (by simp (maxDischargeDepth := 9) [results, Tryz.results75, go_sem, k0, k1, f0, f1]) rfl ⟨?_, ?_⟩
          · rw [FIN.out, if_neg (by omega), if_neg (by omega), if_pos (by simp)]
          · repeat (first | exact Ext.refl _ | apply Ext.alloc | (refine Ext.setCell ?_ (by simp) _) | (refine Ext.trans ?_ (by assumption)))
        · have hc1' := hc 1 (by omega)
          have hl1 : (1 : Int) < (L : Int) := by omega
          have r1 := getD_range hR.out 1
          have fin2 := FIN.out
          generalize hx1 : b.getD 1 0 = x1 at *
          have FIN2 := Lib.hid fin2; clear fin2 hx1
          have ho := bor0 x1 r1.1 r1.2
          clear hz0 hc
          go_enter Tryz.func75, Tryz.ntmps75
          go_wp2_with (go_at_call 15; refine (size_any _ (by omega) (by omega) _).mono ?_; rw [HS.out]; rintro e w' ⟨rfl, hx⟩; have k0 := hx.block.1 0 (.int .u8 0) rfl; have k1 := hx.block.1 1 (.int .u16 0) rfl; have f0 := hx.block.2 0; have f1 := hx.block.2 1; have d0 := (((Ext.refl _).alloc _).trans hx).cell hc0; have d1 := (((Ext.refl _).alloc _).trans hx).cell hc1')
          refine wp_loop_rounds 2 ?_
          rw [rounds_succ]
          go_wp2
          go_still_tail 9, (by kernel_rfl)
          change wpList _ _ _ _ _ (World.drew _)
          go_wp2
          rw [rounds_succ]
          go_wp2
          refine bodyPost_ret (v := .tuple #[.agg #[.int .u8 x0, .int .u16 x1], .int .i64 2, .int .i64 0]) (by simp (maxDischargeDepth := 9) [results, Tryz.results75, go_sem, k0, k1, f0, f1]) rfl ⟨?_, ?_⟩
          · rw [FIN2.out, if_neg (by omega), if_neg (by omega), if_neg (by omega), if_pos (by simp)]
          · repeat (first | exact Ext.refl _ | apply Ext.alloc | apply Ext.drew | (refine Ext.setCell ?_ (by simp) _) | (refine Ext.trans ?_ (by assumption)))
        · have hc1' := hc 1 (by omega)
          have hc2' := hc 2 (by omega)
          have hl1 : (1 : Int) < (L : Int) := by omega
          have hl2 : (2 : Int) < (L : Int) := by omega
          have r1 := getD_range hR.out 1
          have r2 := getD_range hR.out 2
          have fin2 := FIN.out
          generalize hx1 : b.getD 1 0 = x1 at *
          generalize hx2 : b.getD 2 0 = x2 at *
          have FIN2 := Lib.hid fin2; clear fin2 hx1 hx2
          have ho := bor0 x2 r2.1 r2.2
          have ho2 := bor8 x2 x1 r2.1 r2.2 r1.1 r1.2
          clear hz0 hc
          go_enter Tryz.func75, Tryz.ntmps75
          go_wp2_with (go_at_call 15; refine (size_any _ (by omega) (by omega) _).mono ?_; rw [HS.out]; rintro e w' ⟨rfl, hx⟩; have k0 := hx.block.1 0 (.int .u8 0) rfl; have k1 := hx.block.1 1 (.int .u16 0) rfl; have f0 := hx.block.2 0; have f1 := hx.block.2 1; have d0 := (((Ext.refl _).alloc _).trans hx).cell hc0; have d1 := (((Ext.refl _).alloc _).trans hx).cell hc1'; have d2 := (((Ext.refl _).alloc _).trans hx).cell hc2')
          refine wp_loop_rounds 3 ?_
          rw [rounds_succ]
          go_wp2
          go_still_tail 9, (by kernel_rfl)
          change wpList _ _ _ _ _ (World.drew _)
          go_wp2
          have k0' := cell_set_ne (a := ⟨w.heap.size, 1, none⟩) (v := .int .u16 x2) k0 (by simp)
          have k1' := cell_set (v := .int .u16 x2) k1
          have f0' := frozen_set (a := ⟨w.heap.size, 1, none⟩) (v := .int .u16 x2) f0
          have f1' := frozen_set (a := ⟨w.heap.size, 1, none⟩) (v := .int .u16 x2) f1
          have d0' := cell_set_ne (a := ⟨w.heap.size, 1, none⟩) (v := .int .u16 x2) d0 (by simp)
          have d1' := cell_set_ne (a := ⟨w.heap.size, 1, none⟩) (v := .int .u16 x2) d1 (by simp)
          have hx2 : Ext w (w'.setCell ⟨w.heap.size, 1, none⟩ (.int .u16 x2)).drew := (((Ext.refl _).alloc _).trans hx).setCell (by simp) _ |>.drew
          generalize (w'.setCell ⟨w.heap.size, 1, none⟩ (.int .u16 x2)).drew = W2 at *
          clear k0 k1 f0 f1 d0 d1 hx
          rw [rounds_succ]
          go_wp2
          go_still_tail 9, (by kernel_rfl)
          change wpList _ _ _ _ _ (World.drew _)
          go_wp2
          rw [rounds_succ]
          go_wp2
          refine bodyPost_ret (v := .tuple #[.agg #[.int .u8 x0, .int .u16 (x2 * 256 + x1)], .int .i64 3, .int .i64 0]) (by simp (maxDischargeDepth := 9) [results, Tryz.results75, go_sem, k0', k1', f0', f1']) rfl ⟨?_, ?_⟩
          · rw [FIN2.out, if_neg (by omega), if_neg (by omega), if_neg (by omega), if_neg (by omega)]
          · repeat (first | exact Ext.refl _ | apply Ext.alloc | apply Ext.drew | (refine Ext.setCell ?_ (by simp) _) | (refine Ext.trans ?_ (by assumption)))
  · have hz : b.length = 0 := by omega
    have HZ := Lib.hid hz
    rw [hz]; clear hz h3 hc1 hp hr
    go_enter Tryz.func75, Tryz.ntmps75
    go_wp2
    refine bodyPost_ret (v := .tuple #[.agg #[.int .u8 0, .int .u16 0], .int .i64 0, .int .i64 2]) (by simp (maxDischargeDepth := 9) [results, Tryz.results75, go_sem]) rfl ⟨?_, ?_⟩
    · unfold readS; rw [if_pos HZ.out]
    · repeat (first | exact Ext.refl _ | apply Ext.alloc | apply Ext.drew | (refine Ext.setCell ?_ (by simp) _) | (refine Ext.trans ?_ (by assumption)))
end Go.Proofs.YtnklmehphmidhaaGreatDoor
