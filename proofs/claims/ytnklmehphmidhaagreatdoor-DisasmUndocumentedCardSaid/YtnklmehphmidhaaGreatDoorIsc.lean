/- isa80, further: forms, sizes, names, operands, jumps, reading. -/
import Derived.Test.YtnklmehphmidhaaGreatDoorIsb
import Derived.Test.YtnklmehphmidhaaGreatDoorBase2
namespace Go.Proofs.YtnklmehphmidhaaGreatDoor
open Go.RowKit
set_option maxRecDepth 100000
set_option maxHeartbeats 4000000

def wordsS (op : Int) : List ByteArray :=
  if (op / 64 == 0) = true then lowS op
  else if (op / 64 == 1) = true then (if (op == 118) = true then [⟨#[72, 76, 84]⟩] else [⟨#[77, 79, 86]⟩, regS (op / 8), regS op])
  else if (op / 64 == 2) = true then [[⟨#[65, 68, 68]⟩, ⟨#[65, 68, 67]⟩, ⟨#[83, 85, 66]⟩, ⟨#[83, 66, 66]⟩, ⟨#[65, 78, 65]⟩, ⟨#[88, 82, 65]⟩, ⟨#[79, 82, 65]⟩, ⟨#[67, 77, 80]⟩].getD (op / 8 % 8).toNat ⟨#[]⟩, regS op]
  else highS op

theorem words_any (op : Int) (h0 : 0 ≤ op) (h1 : op < 256) (w : World) : Calls Tryz.prog 38 #[.int .u8 op] w (RStrs w (wordsS op)) := by
  go_enter Tryz.func38, Tryz.ntmps38
  go_wp2_with (first
    | (go_at_call 66; (with_reducible refine (form_any _ _).mono ?_); rintro e w' ⟨rfl, rfl⟩)
    | (go_at_call 67; (with_reducible refine (reg_any _ _ (by omega) (by omega)).mono ?_); rintro e w' ⟨rfl, hx⟩)
    | (go_at_call 65; (with_reducible refine (low_any _ (by omega) (by have := ‹(op / 64 == 0) = true›; simp at this; omega) _).mono ?_); rintro e w' ⟨v, rfl, hs, hx⟩)
    | (go_at_call 69; (with_reducible refine (high_any _ (by omega) (by omega) _).mono ?_); rintro e w' ⟨v, rfl, hs, hx⟩)
    | (go_at_call 68; (with_reducible refine (pick8 _ _ _ _ _ _ _ _ _ _ _ (by simp) (by omega) (by omega)).mono ?_); rintro e w' ⟨rfl, rfl⟩))
  all_goals try go_ret
  all_goals first
    | (exact RStrs.mk hs (by simp [wordsS, *]) hx)
    | (refine RStrs.m1 (by simp) ?_ ?_; (repeat (first | exact Ext.refl _ | assumption | apply Ext.alloc | (refine Ext.trans ?_ (by assumption)))); simp [wordsS, *]; done)
    | (refine RStrs.m2 (by simp) ?_ ?_; (repeat (first | exact Ext.refl _ | assumption | apply Ext.alloc | (refine Ext.trans ?_ (by assumption)))); simp [wordsS, *]; done)
    | (refine RStrs.m3 (by simp) ?_ ?_; (repeat (first | exact Ext.refl _ | assumption | apply Ext.alloc | (refine Ext.trans ?_ (by assumption)))); simp [wordsS, *]; done)

def nameOf (l : List ByteArray) : ByteArray := l.getD 0 ⟨#[]⟩

theorem name_any (op : Int) (h0 : 0 ≤ op) (h1 : op < 256) (w : World) : Calls Tryz.prog 77 #[.int .u8 op] w (RStr w (nameOf (wordsS op))) := by
  generalize hl : wordsS op = l
  have HL := Lib.hid hl; clear hl
  go_enter Tryz.func77, Tryz.ntmps77
  go_wp2_with fail
  refine (words_any _ h0 h1 _).mono ?_
  rintro e w1 ⟨v, rfl, hs, hx⟩
  rw [HL.out] at hs
  obtain ⟨A, c, rfl, hc1, hc2, h3⟩ := hs.open
  clear hs
  by_cases hp : 0 < l.length
  · obtain ⟨b, o, rfl, hlt, hc⟩ := h3 hp
    have hc0 := hc 0 hp
    simp only [Nat.add_zero] at hc0
    generalize hn : l.getD 0 ⟨#[]⟩ = n at *
    have HN := Lib.hid hn; clear hn hc h3
    generalize l.length = L at *
    go_wp2
    go_ret
    exact ⟨by rw [← HN.out]; rfl, hx⟩
  · have hz : l.length = 0 := by omega
    have HZ := Lib.hid hz
    rw [hz]; clear hz h3 hc1 hp
    go_wp2
    go_ret
    exact ⟨by rw [show l = [] from List.eq_nil_of_length_eq_zero HZ.out]; rfl, hx⟩
end Go.Proofs.YtnklmehphmidhaaGreatDoor
