/- isa86: an opcode's guess. -/
import Derived.Test.YtnklmehphmidhaaGreatDoorIza
import Derived.Test.YtnklmehphmidhaaGreatDoorMn
import Derived.Lib.SlBytesConst
namespace Go.Proofs.YtnklmehphmidhaaGreatDoor
open Go.RowKit
set_option maxRecDepth 100000
set_option maxHeartbeats 1000000
set_option linter.unusedSimpArgs false
set_option linter.unusedVariables false

theorem bytsAlloc (w : World) (l : List Int) (hl : l.length ≤ 1000000) (hr : ∀ x ∈ l, 0 ≤ x ∧ x ≤ 255) (t : TypeId) (fr : Nat × Nat) (cs : Array Value) (hcs : cs = (l.map (Value.int .u8)).toArray) (n : Nat) (hn : n = l.length) :
    Byts (w.alloc (.cells cs t fr)) (.slice (some ⟨w.heap.size, 0, none⟩) n n) l := by
  subst hcs; subst hn
  refine ⟨_, _, rfl, Nat.le_refl _, by omega, hr, fun _ => ⟨_, _, rfl, by simp, fun j hj => ?_⟩⟩
  have : (w.alloc (.cells (l.map (Value.int .u8)).toArray t fr)).heap[w.heap.size]? = some (.cells (l.map (Value.int .u8)).toArray t fr) := heap_alloc_new _ _
  rw [Nat.zero_add]
  simp only [World.cell?]
  rw [this]
  simp [List.getElem?_eq_getElem hj]
theorem alone_any (a : Int) (w : World) : Calls Tryz.prog 156 #[.int .u8 a] w (R3 w (aloneS a)) := by
  have kc := fun (w : World) (C : Array Value) (n c : Nat) => Lib.run_convert_bytes_const (P := Tryz.prog) w 22 5 C n c Tryz.underlying22 Tryz.underlying5
  have HA := Lib.hid (show ∀ (W : World) fr, Byts (W.alloc (.cells #[.int .u8 159, .int .u8 158, .int .u8 39, .int .u8 245, .int .u8 249, .int .u8 248, .int .u8 251, .int .u8 250, .int .u8 244, .int .u8 144] 5 fr)) (.slice (some ⟨W.heap.size, 0, none⟩) 10 10) aloneL from fun W fr => bytsAlloc W aloneL (by decide) (by decide) 5 fr _ rfl 10 rfl)
  have HI : Hid (-1 ≤ idxI aloneL a ∧ idxI aloneL a ≤ 9) := Lib.hid (by
    unfold idxI
    cases h : aloneL.findIdx? (fun y => y == a) with
    | none => simp
    | some i =>
      have := (List.findIdx?_eq_some_iff_getElem.1 h).1
      have hl : aloneL.length = 10 := rfl
      simp only
      omega)
  go_enter Tryz.func156, Tryz.ntmps156
  go_wp2_with (go_at_call 190; refine (index190_any aloneL a _ _ (HA.out _ _) (by decide)).mono ?_; have hI := HI.out; have hI0 := hI.1; have hI1 := hI.2; generalize hi : idxI aloneL a = ix at *; have HIX := Lib.hid hi; clear hi hI; rintro e w1 ⟨rfl, hx1⟩)
  all_goals
    go_ret3
    refine R3.mk ?_ ?_
    · first
        | (simp [aloneS, *]; done)
        | (rw [← HIX.out]; simp [aloneS, *]; done)
    · repeat (first | exact Ext.refl _ | assumption | apply Ext.alloc | (refine Ext.trans ?_ (by assumption)))

def placeS (m r : Int) : Int := if (m / 64 == 3) = true then r else if (m % 8 == 7) = true then 17 else if (m % 8 == 4) = true then 18 else if (m % 8 == 6) = true then 19 else 0
def movedS (a m reg r : Int) : Int × Int × Int := if (bits .and .u8 a 2 == 0) = true then (1, placeS m r, reg) else (1, reg, placeS m r)
theorem moved_any (a m reg r : Int) (hm0 : 0 ≤ m) (hm1 : m ≤ 255) (w : World) : Calls Tryz.prog 155 #[.int .u8 a, .int .u8 m, .int .i64 reg, .int .i64 r] w (R3 w (movedS a m reg r)) := by
  have hb := band7 m hm0 (by omega)
  go_enter Tryz.func155, Tryz.ntmps155
  go_wp2
  all_goals
    go_ret3
    refine R3.mk ?_ (Ext.refl _)
    simp [movedS, placeS, *]
end Go.Proofs.YtnklmehphmidhaaGreatDoor
