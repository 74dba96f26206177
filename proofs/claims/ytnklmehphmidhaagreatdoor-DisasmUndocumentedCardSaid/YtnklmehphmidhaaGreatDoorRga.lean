/- slices.Reverse of bytes. -/
import Derived.Test.YtnklmehphmidhaaGreatDoorRfe
import Derived.RegionTactic
namespace Go.Proofs.YtnklmehphmidhaaGreatDoor
open Go.RowKit
set_option maxRecDepth 100000
set_option maxHeartbeats 1000000
set_option linter.unusedSimpArgs false
set_option linter.unusedVariables false

structure RevSt (w0 : World) (l : List Int) (g k : Nat) (wr : World) : Prop where
  E : Ext w0 wr
  cell : ∀ j, j < l.length → wr.cell? ⟨g, j, none⟩ = some (.int .u8 (if j < k ∨ l.length - k ≤ j then l.getD (l.length - 1 - j) 0 else l.getD j 0))
  free : ∀ j, j < l.length → wr.frozen? ⟨g, j, none⟩ = false
theorem RevSt.drew {w0 : World} {l : List Int} {g k : Nat} {wr : World} (h : RevSt w0 l g k wr) : RevSt w0 l g k wr.drew := ⟨h.E.drew, h.cell, h.free⟩
theorem RevSt.next {w0 : World} {l : List Int} {g k : Nat} {wr : World} (h : RevSt w0 l g k wr) (hg : w0.heap.size ≤ g) (hk : k + 1 + k < l.length) (x y : Int) (hx : x = l.getD k 0) (hy : y = l.getD (l.length - 1 - k) 0) :
    RevSt w0 l g (k + 1) ((wr.setCell ⟨g, k, none⟩ (.int .u8 y)).setCell ⟨g, l.length - 1 - k, none⟩ (.int .u8 x)) := by
  subst hx; subst hy
  refine ⟨(h.E.setCell hg _).setCell hg _, fun j hj => ?_, fun j hj => by rw [World.frozen?_setCell, World.frozen?_setCell]; exact h.free j hj⟩
  by_cases h1 : j = l.length - 1 - k
  · have hc := h.cell j hj
    subst h1
    have h2 := (World.cell?_setCell_other wr ⟨g, k, none⟩ ⟨g, l.length - 1 - k, none⟩ (.int .u8 (l.getD (l.length - 1 - k) 0)) (by intro e; injection e with e1 e2; omega)).trans hc
    rw [World.cell?_setCell_same _ _ _ h2, if_pos (by omega)]
    congr 3; omega
  · rw [World.cell?_setCell_other _ _ _ _ (by intro e; injection e with e1 e2; omega)]
    by_cases h2 : j = k
    · subst h2
      rw [World.cell?_setCell_same _ _ _ (h.cell j hj), if_pos (by omega)]
    · rw [World.cell?_setCell_other _ _ _ _ (by intro e; injection e with e1 e2; omega), h.cell j hj]
      by_cases h3 : j < k ∨ l.length - k ≤ j
      · rw [if_pos h3, if_pos (by omega)]
      · rw [if_neg h3, if_neg (by omega)]

theorem rev_any (w0 : World) (l : List Int) (g c : Nat) (hg : w0.heap.size ≤ g) (h0 : 0 < l.length) (h1 : (l.length : Int) ≤ 1000) (hr : ∀ j, 0 ≤ l.getD j 0 ∧ l.getD j 0 ≤ 255) (w : World) (h : RevSt w0 l g 0 w) :
    Calls Tryz.prog 199 #[.slice (some ⟨g, 0, none⟩) l.length c] w fun e w' => e = .returned (.tuple #[]) ∧ ∃ k, l.length ≤ k + 1 + k ∧ k + k ≤ l.length ∧ RevSt w0 l g k w' := by
  have H := Lib.hid h; clear h
  have HR := Lib.hid hr; clear hr
  go_enter Tryz.func199, Tryz.ntmps199
  go_wp2
  go_loopw [2, 3] (fun i j wr => ∃ k : Nat, k + k ≤ l.length ∧ i = .int .i64 k ∧ j = .int .i64 (l.length - 1 - k : Int) ∧ Hid (RevSt w0 l g k wr)) (fun i _ _ => l.length - (intOf i).toNat)
  case atStart => exact ⟨0, by omega, rfl, by simp, H⟩
  case round =>
    obtain ⟨k, hk, rfl, rfl, HS⟩ := hrel
    by_cases hlt : k + 1 + k < l.length
    · have hj : (l.length - 1 - k : Int) = ((l.length - 1 - k : Nat) : Int) := by omega
      have c1 := HS.out.cell k (by omega)
      have c2 := HS.out.cell (l.length - 1 - k) (by omega)
      rw [if_neg (by omega)] at c1 c2
      have f1 := HS.out.free k (by omega)
      have f2 := HS.out.free (l.length - 1 - k) (by omega)
      have r1 := HR.out k
      have r2 := HR.out (l.length - 1 - k)
      rw [hj]
      clear hj
      generalize hjj : l.length - 1 - k = j at *
      generalize hx : l.getD k 0 = x at *
      generalize hy : l.getD j 0 = y at *
      have HX := Lib.hid hx; have HY := Lib.hid hy; have HJ := Lib.hid hjj
      have hkj : k < j := by omega
      have hjl : j < l.length := by omega
      clear hx hy hjj
      go_wp2
      go_region
      all_goals
        go_wp2
        go_roundw
        case rel =>
          refine ⟨k + 1, by omega, by go_num, ?_, Lib.hid ?_⟩
          · have hj2 := HJ.out
            congr 1; omega
          · have hn := HS.out.next hg (by omega) x y HX.out.symm (by rw [HJ.out]; exact HY.out.symm)
            rw [HJ.out] at hn
            exact hn.drew
        case measure => simp [intOf]; omega
    · have hge : ¬ ((k : Int) < (l.length : Int) - 1 - k) := by omega
      go_wp2
      go_end0
      exact ⟨rfl, k, by omega, hk, HS.out⟩
end Go.Proofs.YtnklmehphmidhaaGreatDoor
