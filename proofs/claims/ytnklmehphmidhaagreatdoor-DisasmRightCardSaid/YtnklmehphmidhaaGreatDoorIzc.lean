/- isa86: an opcode's guess. -/
import Derived.Test.YtnklmehphmidhaaGreatDoorIzb
namespace Go.Proofs.YtnklmehphmidhaaGreatDoor
open Go.RowKit
set_option maxRecDepth 100000
set_option maxHeartbeats 4000000
set_option linter.unusedSimpArgs false
set_option linter.unusedVariables false

def wB (a : Int) : Bool := a % 2 == 1
def guessS (a m : Int) : Int × Int × Int :=
  if a < 64 ∧ a % 8 < 2 then (a / 8 + 2, registerS m (wB a), registerS (m / 8) (wB a))
  else if a < 64 ∧ a % 8 = 2 then (a / 8 + 2, registerS (m / 8) (wB a), 17)
  else if a < 64 ∧ a % 8 = 4 then (a / 8 + 2, 1, 20)
  else if a = 39 then (22, 0, 0)
  else if a / 16 = 4 then (10 + a / 8 % 2, registerS a true, 0)
  else if a / 16 = 5 then (18 + a / 8 % 2, registerS a true, 0)
  else if a / 16 = 7 then (40 + a % 16, 20, 0)
  else if a = 128 then (m / 8 % 8 + 2, registerS m (wB a), 20)
  else if a = 134 ∨ a = 135 then (17, registerS m (wB a), registerS (m / 8) (wB a))
  else if a / 8 = 22 then (1, registerS a false, 20)
  else if a / 8 = 23 then (1, registerS a true, 20)
  else if a = 198 then (1, 17, 20)
  else if a = 208 ∨ a = 209 then (12 + m / 8 % 8, registerS m (wB a), 0)
  else if a = 246 then (16, registerS m (wB a), 0)
  else if a = 254 ∧ m / 64 = 0 then (10 + m / 8 % 8, 17, 0)
  else if a = 254 then (10 + m / 8 % 8, registerS m (wB a), 0)
  else if bits .and .u8 a 252 = 136 then movedS a m (registerS (m / 8) (wB a)) (registerS m (wB a))
  else aloneS a

theorem guess_any (a m : Int) (ha0 : 0 ≤ a) (ha1 : a ≤ 255) (hm0 : 0 ≤ m) (hm1 : m ≤ 255) (w : World) : Calls Tryz.prog 114 #[.int .u8 a, .int .u8 m] w (R3 w (guessS a m)) := by
  have hb1 := band1 a ha0 (by omega)
  have hb7 := band7 a ha0 (by omega)
  have hb15 : bits .and .u8 a 15 = a % 16 := band a 15 4 rfl (by decide) ha0 (by omega)
  have hb3 := band7 (m / 8) (by omega) (by omega)
  have hb4 := band1 (a / 8) (by omega) (by omega)
  have HW := Lib.hid (show wB a = (a % 2 == 1) from rfl)
  go_enter Tryz.func114, Tryz.ntmps114
  go_wp2_with (first
    | (go_at_call 154; refine (register_any _ (by omega) (by omega) _ _).mono ?_; rintro e w' ⟨rfl, rfl⟩)
    | (go_at_call 155; refine (moved_any a m _ _ hm0 hm1 _).mono ?_; rintro e w' ⟨rfl, hx⟩)
    | (go_at_call 156; refine (alone_any a _).mono ?_; rintro e w' ⟨rfl, hx⟩))
  all_goals
    go_ret3
    refine R3.mk ?_ (by first | exact Ext.refl _ | assumption)
    clear hb1 hb7 hb15 hb3 hb4
    try simp only [beq_iff_eq, beq_eq_false_iff_ne] at *
    unfold guessS wB
    repeat (first | rw [if_pos (by omega)] | rw [if_neg (by omega)])
    all_goals rfl
end Go.Proofs.YtnklmehphmidhaaGreatDoor
