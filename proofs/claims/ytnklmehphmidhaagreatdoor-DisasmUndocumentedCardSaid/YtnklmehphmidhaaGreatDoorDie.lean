/- disasm: the first instruction, in whole. -/
import Derived.Test.YtnklmehphmidhaaGreatDoorDid
namespace Go.Proofs.YtnklmehphmidhaaGreatDoor
open Go.RowKit
set_option maxRecDepth 100000
set_option maxHeartbeats 4000000
set_option linter.unusedSimpArgs false
set_option linter.unusedVariables false

theorem first80_e (d : Int) (b : List Int) (v : Value) (w : World) (hb : Byts w v b) (hp : 0 < b.length) (hr : (readS b).2.2.2 ≠ 0) :
    Calls Tryz.prog 40 #[.int .i64 d, v] w (RPiece w ⟨#[68, 66]⟩ [numA false (b.getD 0 0)] 1 (-1)) := by
  have HB := Lib.hid hb
  obtain ⟨A, c, rfl, hc1, hc2, hrg, hcs⟩ := hb
  obtain ⟨g, o, rfl, hlt, hc⟩ := hcs hp
  have r0 := getD_range hrg 0
  have hc0 := hc 0 hp
  simp only [Nat.add_zero] at hc0
  generalize hx0 : b.getD 0 0 = x0 at *
  generalize hR : readS b = R at *
  have HX0 := Lib.hid hx0; have HR := Lib.hid hR
  clear hx0 hR hc hrg hcs
  obtain ⟨o1, n1, s1, k1⟩ := R
  simp only at hr
  go_enter Tryz.func40, Tryz.ntmps40
  go_wp2_with (first
    | (go_at_call 75; refine (read_any b _ _ (HB.out.ext (by with_reducible exact (Ext.refl _).alloc _))).mono ?_; rw [HR.out]; rintro e w1 ⟨rfl, hx1⟩; have hB1 := (Blk.new _ _ _).ext hx1; have kb := (((Ext.refl _).alloc _).trans hx1).cell hc0; have ltg : g < w1.heap.size := Nat.lt_of_lt_of_le hlt (((Ext.refl _).alloc _).trans hx1).size)
    | (go_at_call 71; refine (db_any _ r0.1 r0.2 _).mono ?_; rintro e w2 ⟨A2, c2, rfl, hA2, hx2⟩; have hB2 := (hB1.alloc _).ext hx2; have k := hB2.cell; have f := hB2.frozen; have lt1 := hB1.lt))
  have hne : ∀ j : Nat, (Value.slice A2 1 c2).ownBlock ≠ some (⟨w.heap.size, j, none⟩ : Addr).block := by
    intro j e
    have h := (World.ownsRow.lt hA2) _ e
    have h1 := h.1
    simp at h1
    omega
  refine bodyPost_ret (res3 rfl _ _ _ w.heap.size (.agg #[.string ⟨#[]⟩, .bool false, .string ⟨#[68, 66]⟩, .slice A2 1 c2]) rfl (by simp (maxDischargeDepth := 20) [go_sem, k])) rfl (RPiece.mk rfl ?_ ?_ rfl)
  · exact ((((Args.mono hA2 (by have := lt1; simp at this ⊢; omega)).setCell _ _ (hne _)).setCell _ _ (hne _)).setCell _ _ (hne _)).setCell _ _ (hne _)
  · have hxw : Ext w w2 := ((((Ext.refl w).alloc _).trans hx1).alloc _).trans hx2
    exact (((hxw.setCell (by simp) _).setCell (by simp) _).setCell (by simp) _).setCell (by simp) _
end Go.Proofs.YtnklmehphmidhaaGreatDoor
