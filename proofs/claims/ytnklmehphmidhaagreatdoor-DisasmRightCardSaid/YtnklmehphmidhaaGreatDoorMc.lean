/- zilog: operands, sums, loads, plain forms. -/
import Derived.Test.YtnklmehphmidhaaGreatDoorMb
import Derived.StillTailTactics
namespace Go.Proofs.YtnklmehphmidhaaGreatDoor
section
set_option linter.unusedVariables false
open Go.RowKit
set_option maxRecDepth 100000
set_option maxHeartbeats 4000000
set_option linter.unusedSimpArgs false

def argS (s : ByteArray) : ByteArray :=
  if isS s [77] = true then ⟨#[40, 72, 76, 41]⟩ else
  if isS s [100, 56] = true then ⟨#[110]⟩ else
  if isS s [100, 49, 54] = true then ⟨#[110, 110]⟩ else
  s

theorem zarg_any (s : ByteArray) (w : World) : Calls Tryz.prog 164 #[.string s] w fun e w' => e = .returned (.string (argS s)) ∧ w = w' := by
  rcases Bool.eq_false_or_eq_true (s.toList == [77]) with h1 | h1
  · go_enter Tryz.func164, Tryz.ntmps164
    go_wp2
    go_ret
    refine ⟨?_, rfl⟩
    simp only [argS, isS_eq]
    simp [*]
  rcases Bool.eq_false_or_eq_true (s.toList == [100, 56]) with h2 | h2
  · go_enter Tryz.func164, Tryz.ntmps164
    go_wp2
    go_ret
    refine ⟨?_, rfl⟩
    simp only [argS, isS_eq]
    simp [*]
  rcases Bool.eq_false_or_eq_true (s.toList == [100, 49, 54]) with h3 | h3
  · go_enter Tryz.func164, Tryz.ntmps164
    go_wp2
    go_ret
    refine ⟨?_, rfl⟩
    simp only [argS, isS_eq]
    simp [*]
  go_enter Tryz.func164, Tryz.ntmps164
  go_wp2
  go_ret
  refine ⟨?_, rfl⟩
  simp only [argS, isS_eq]
  simp [*]

def zpairS (s : ByteArray) : ByteArray :=
  if isS s [66] = true then ⟨#[66, 67]⟩ else
  if isS s [68] = true then ⟨#[68, 69]⟩ else
  if isS s [72] = true then ⟨#[72, 76]⟩ else
  if isS s [80, 83, 87] = true then ⟨#[65, 70]⟩ else
  s

theorem zpair_any (s : ByteArray) (w : World) : Calls Tryz.prog 197 #[.string s] w fun e w' => e = .returned (.string (zpairS s)) ∧ w = w' := by
  rcases Bool.eq_false_or_eq_true (s.toList == [66]) with h1 | h1
  · go_enter Tryz.func197, Tryz.ntmps197
    go_wp2
    go_ret
    refine ⟨?_, rfl⟩
    simp only [zpairS, isS_eq]
    simp [*]
  rcases Bool.eq_false_or_eq_true (s.toList == [68]) with h2 | h2
  · go_enter Tryz.func197, Tryz.ntmps197
    go_wp2
    go_ret
    refine ⟨?_, rfl⟩
    simp only [zpairS, isS_eq]
    simp [*]
  rcases Bool.eq_false_or_eq_true (s.toList == [72]) with h3 | h3
  · go_enter Tryz.func197, Tryz.ntmps197
    go_wp2
    go_ret
    refine ⟨?_, rfl⟩
    simp only [zpairS, isS_eq]
    simp [*]
  rcases Bool.eq_false_or_eq_true (s.toList == [80, 83, 87]) with h4 | h4
  · go_enter Tryz.func197, Tryz.ntmps197
    go_wp2
    go_ret
    refine ⟨?_, rfl⟩
    simp only [zpairS, isS_eq]
    simp [*]
  go_enter Tryz.func197, Tryz.ntmps197
  go_wp2
  go_ret
  refine ⟨?_, rfl⟩
  simp only [zpairS, isS_eq]
  simp [*]

def oneS (s : ByteArray) : ByteArray :=
  if isS s [82, 76, 67] = true ∨ isS s [82, 82, 67] = true then s ++ (⟨#[65]⟩ : ByteArray) else
  if isS s [82, 65, 76] = true then ⟨#[82, 76, 65]⟩ else
  if isS s [82, 65, 82] = true then ⟨#[82, 82, 65]⟩ else
  if isS s [67, 77, 65] = true then ⟨#[67, 80, 76]⟩ else
  if isS s [83, 84, 67] = true then ⟨#[83, 67, 70]⟩ else
  if isS s [67, 77, 67] = true then ⟨#[67, 67, 70]⟩ else
  if isS s [72, 76, 84] = true then ⟨#[72, 65, 76, 84]⟩ else
  s

theorem zone_any (s : ByteArray) (hz : s.size ≤ 1000) (w : World) : Calls Tryz.prog 198 #[.string s] w fun e w' => e = .returned (.string (oneS s)) ∧ w = w' := by
  rcases Bool.eq_false_or_eq_true (s.toList == [82, 76, 67]) with h1 | h1
  · go_enter Tryz.func198, Tryz.ntmps198
    go_wp2
    go_ret
    refine ⟨?_, rfl⟩
    simp only [oneS, isS_eq]
    simp [*]
  rcases Bool.eq_false_or_eq_true (s.toList == [82, 82, 67]) with h2 | h2
  · go_enter Tryz.func198, Tryz.ntmps198
    go_wp2
    go_ret
    refine ⟨?_, rfl⟩
    simp only [oneS, isS_eq]
    simp [*]
  rcases Bool.eq_false_or_eq_true (s.toList == [82, 65, 76]) with h3 | h3
  · go_enter Tryz.func198, Tryz.ntmps198
    go_wp2
    go_ret
    refine ⟨?_, rfl⟩
    simp only [oneS, isS_eq]
    simp [*]
  rcases Bool.eq_false_or_eq_true (s.toList == [82, 65, 82]) with h4 | h4
  · go_enter Tryz.func198, Tryz.ntmps198
    go_wp2
    go_ret
    refine ⟨?_, rfl⟩
    simp only [oneS, isS_eq]
    simp [*]
  rcases Bool.eq_false_or_eq_true (s.toList == [67, 77, 65]) with h5 | h5
  · go_enter Tryz.func198, Tryz.ntmps198
    go_wp2
    go_ret
    refine ⟨?_, rfl⟩
    simp only [oneS, isS_eq]
    simp [*]
  rcases Bool.eq_false_or_eq_true (s.toList == [83, 84, 67]) with h6 | h6
  · go_enter Tryz.func198, Tryz.ntmps198
    go_wp2
    go_ret
    refine ⟨?_, rfl⟩
    simp only [oneS, isS_eq]
    simp [*]
  rcases Bool.eq_false_or_eq_true (s.toList == [67, 77, 67]) with h7 | h7
  · go_enter Tryz.func198, Tryz.ntmps198
    go_wp2
    go_ret
    refine ⟨?_, rfl⟩
    simp only [oneS, isS_eq]
    simp [*]
  rcases Bool.eq_false_or_eq_true (s.toList == [72, 76, 84]) with h8 | h8
  · go_enter Tryz.func198, Tryz.ntmps198
    go_wp2
    go_ret
    refine ⟨?_, rfl⟩
    simp only [oneS, isS_eq]
    simp [*]
  go_enter Tryz.func198, Tryz.ntmps198
  go_wp2
  go_ret
  refine ⟨?_, rfl⟩
  simp only [oneS, isS_eq]
  simp [*]

theorem zwords_any (w : World) (v : Value) : Calls Tryz.prog 161 #[v] w fun e w' => e = .returned v ∧ w = w' := by
  go_enter Tryz.func161, Tryz.ntmps161
  go_wp2
  go_ret
  exact ⟨rfl, rfl⟩

def sumsS (name s : ByteArray) : List ByteArray :=
  if isS name [65, 68, 68] = true ∨ isS name [65, 68, 73] = true then [⟨#[65, 68, 68]⟩, ⟨#[65]⟩, s] else
  if isS name [65, 68, 67] = true ∨ isS name [65, 67, 73] = true then [⟨#[65, 68, 67]⟩, ⟨#[65]⟩, s] else
  if isS name [83, 66, 66] = true ∨ isS name [83, 66, 73] = true then [⟨#[83, 66, 67]⟩, ⟨#[65]⟩, s] else
  if isS name [83, 85, 66] = true ∨ isS name [83, 85, 73] = true then [⟨#[83, 85, 66]⟩, s] else
  if isS name [65, 78, 65] = true ∨ isS name [65, 78, 73] = true then [⟨#[65, 78, 68]⟩, s] else
  if isS name [88, 82, 65] = true ∨ isS name [88, 82, 73] = true then [⟨#[88, 79, 82]⟩, s] else
  if isS name [79, 82, 65] = true ∨ isS name [79, 82, 73] = true then [⟨#[79, 82]⟩, s] else
  [⟨#[67, 80]⟩, s]

theorem sums_any (name s : ByteArray) (w : World) : Calls Tryz.prog 163 #[.string name, .string s] w (RStrs w (sumsS name s)) := by
  rcases Bool.eq_false_or_eq_true (name.toList == [65, 68, 68]) with h1 | h1
  · go_enter Tryz.func163, Tryz.ntmps163
    go_wp2_with (go_at_call 161; (with_reducible refine (zwords_any _ _).mono ?_); rintro e w' ⟨rfl, rfl⟩)
    go_ret
    first
      | (refine RStrs.m1 (by simp) ?_ ?_; (repeat (first | exact Ext.refl _ | assumption | apply Ext.alloc | (refine Ext.trans ?_ (by assumption)))); simp only [sumsS, isS_eq]; simp [*]; done)
      | (refine RStrs.m2 (by simp) ?_ ?_; (repeat (first | exact Ext.refl _ | assumption | apply Ext.alloc | (refine Ext.trans ?_ (by assumption)))); simp only [sumsS, isS_eq]; simp [*]; done)
      | (refine RStrs.m3 (by simp) ?_ ?_; (repeat (first | exact Ext.refl _ | assumption | apply Ext.alloc | (refine Ext.trans ?_ (by assumption)))); simp only [sumsS, isS_eq]; simp [*]; done)
  rcases Bool.eq_false_or_eq_true (name.toList == [65, 68, 73]) with h2 | h2
  · go_enter Tryz.func163, Tryz.ntmps163
    go_wp2_with (go_at_call 161; (with_reducible refine (zwords_any _ _).mono ?_); rintro e w' ⟨rfl, rfl⟩)
    go_ret
    first
      | (refine RStrs.m1 (by simp) ?_ ?_; (repeat (first | exact Ext.refl _ | assumption | apply Ext.alloc | (refine Ext.trans ?_ (by assumption)))); simp only [sumsS, isS_eq]; simp [*]; done)
      | (refine RStrs.m2 (by simp) ?_ ?_; (repeat (first | exact Ext.refl _ | assumption | apply Ext.alloc | (refine Ext.trans ?_ (by assumption)))); simp only [sumsS, isS_eq]; simp [*]; done)
      | (refine RStrs.m3 (by simp) ?_ ?_; (repeat (first | exact Ext.refl _ | assumption | apply Ext.alloc | (refine Ext.trans ?_ (by assumption)))); simp only [sumsS, isS_eq]; simp [*]; done)
  rcases Bool.eq_false_or_eq_true (name.toList == [65, 68, 67]) with h3 | h3
  · go_enter Tryz.func163, Tryz.ntmps163
    go_wp2_with (go_at_call 161; (with_reducible refine (zwords_any _ _).mono ?_); rintro e w' ⟨rfl, rfl⟩)
    go_ret
    first
      | (refine RStrs.m1 (by simp) ?_ ?_; (repeat (first | exact Ext.refl _ | assumption | apply Ext.alloc | (refine Ext.trans ?_ (by assumption)))); simp only [sumsS, isS_eq]; simp [*]; done)
      | (refine RStrs.m2 (by simp) ?_ ?_; (repeat (first | exact Ext.refl _ | assumption | apply Ext.alloc | (refine Ext.trans ?_ (by assumption)))); simp only [sumsS, isS_eq]; simp [*]; done)
      | (refine RStrs.m3 (by simp) ?_ ?_; (repeat (first | exact Ext.refl _ | assumption | apply Ext.alloc | (refine Ext.trans ?_ (by assumption)))); simp only [sumsS, isS_eq]; simp [*]; done)
  rcases Bool.eq_false_or_eq_true (name.toList == [65, 67, 73]) with h4 | h4
  · go_enter Tryz.func163, Tryz.ntmps163
    go_wp2_with (go_at_call 161; (with_reducible refine (zwords_any _ _).mono ?_); rintro e w' ⟨rfl, rfl⟩)
    go_ret
    first
      | (refine RStrs.m1 (by simp) ?_ ?_; (repeat (first | exact Ext.refl _ | assumption | apply Ext.alloc | (refine Ext.trans ?_ (by assumption)))); simp only [sumsS, isS_eq]; simp [*]; done)
      | (refine RStrs.m2 (by simp) ?_ ?_; (repeat (first | exact Ext.refl _ | assumption | apply Ext.alloc | (refine Ext.trans ?_ (by assumption)))); simp only [sumsS, isS_eq]; simp [*]; done)
      | (refine RStrs.m3 (by simp) ?_ ?_; (repeat (first | exact Ext.refl _ | assumption | apply Ext.alloc | (refine Ext.trans ?_ (by assumption)))); simp only [sumsS, isS_eq]; simp [*]; done)
  rcases Bool.eq_false_or_eq_true (name.toList == [83, 66, 66]) with h5 | h5
  · go_enter Tryz.func163, Tryz.ntmps163
    go_wp2_with (go_at_call 161; (with_reducible refine (zwords_any _ _).mono ?_); rintro e w' ⟨rfl, rfl⟩)
    go_ret
    first
      | (refine RStrs.m1 (by simp) ?_ ?_; (repeat (first | exact Ext.refl _ | assumption | apply Ext.alloc | (refine Ext.trans ?_ (by assumption)))); simp only [sumsS, isS_eq]; simp [*]; done)
      | (refine RStrs.m2 (by simp) ?_ ?_; (repeat (first | exact Ext.refl _ | assumption | apply Ext.alloc | (refine Ext.trans ?_ (by assumption)))); simp only [sumsS, isS_eq]; simp [*]; done)
      | (refine RStrs.m3 (by simp) ?_ ?_; (repeat (first | exact Ext.refl _ | assumption | apply Ext.alloc | (refine Ext.trans ?_ (by assumption)))); simp only [sumsS, isS_eq]; simp [*]; done)
  rcases Bool.eq_false_or_eq_true (name.toList == [83, 66, 73]) with h6 | h6
  · go_enter Tryz.func163, Tryz.ntmps163
    go_wp2_with (go_at_call 161; (with_reducible refine (zwords_any _ _).mono ?_); rintro e w' ⟨rfl, rfl⟩)
    go_ret
    first
      | (refine RStrs.m1 (by simp) ?_ ?_; (repeat (first | exact Ext.refl _ | assumption | apply Ext.alloc | (refine Ext.trans ?_ (by assumption)))); simp only [sumsS, isS_eq]; simp [*]; done)
      | (refine RStrs.m2 (by simp) ?_ ?_; (repeat (first | exact Ext.refl _ | assumption | apply Ext.alloc | (refine Ext.trans ?_ (by assumption)))); simp only [sumsS, isS_eq]; simp [*]; done)
      | (refine RStrs.m3 (by simp) ?_ ?_; (repeat (first | exact Ext.refl _ | assumption | apply Ext.alloc | (refine Ext.trans ?_ (by assumption)))); simp only [sumsS, isS_eq]; simp [*]; done)
  rcases Bool.eq_false_or_eq_true (name.toList == [83, 85, 66]) with h7 | h7
  · go_enter Tryz.func163, Tryz.ntmps163
    go_wp2_with (go_at_call 161; (with_reducible refine (zwords_any _ _).mono ?_); rintro e w' ⟨rfl, rfl⟩)
    go_ret
    first
      | (refine RStrs.m1 (by simp) ?_ ?_; (repeat (first | exact Ext.refl _ | assumption | apply Ext.alloc | (refine Ext.trans ?_ (by assumption)))); simp only [sumsS, isS_eq]; simp [*]; done)
      | (refine RStrs.m2 (by simp) ?_ ?_; (repeat (first | exact Ext.refl _ | assumption | apply Ext.alloc | (refine Ext.trans ?_ (by assumption)))); simp only [sumsS, isS_eq]; simp [*]; done)
      | (refine RStrs.m3 (by simp) ?_ ?_; (repeat (first | exact Ext.refl _ | assumption | apply Ext.alloc | (refine Ext.trans ?_ (by assumption)))); simp only [sumsS, isS_eq]; simp [*]; done)
  rcases Bool.eq_false_or_eq_true (name.toList == [83, 85, 73]) with h8 | h8
  · go_enter Tryz.func163, Tryz.ntmps163
    go_wp2_with (go_at_call 161; (with_reducible refine (zwords_any _ _).mono ?_); rintro e w' ⟨rfl, rfl⟩)
    go_ret
    first
      | (refine RStrs.m1 (by simp) ?_ ?_; (repeat (first | exact Ext.refl _ | assumption | apply Ext.alloc | (refine Ext.trans ?_ (by assumption)))); simp only [sumsS, isS_eq]; simp [*]; done)
      | (refine RStrs.m2 (by simp) ?_ ?_; (repeat (first | exact Ext.refl _ | assumption | apply Ext.alloc | (refine Ext.trans ?_ (by assumption)))); simp only [sumsS, isS_eq]; simp [*]; done)
      | (refine RStrs.m3 (by simp) ?_ ?_; (repeat (first | exact Ext.refl _ | assumption | apply Ext.alloc | (refine Ext.trans ?_ (by assumption)))); simp only [sumsS, isS_eq]; simp [*]; done)
  rcases Bool.eq_false_or_eq_true (name.toList == [65, 78, 65]) with h9 | h9
  · go_enter Tryz.func163, Tryz.ntmps163
    go_wp2_with (go_at_call 161; (with_reducible refine (zwords_any _ _).mono ?_); rintro e w' ⟨rfl, rfl⟩)
    go_ret
    first
      | (refine RStrs.m1 (by simp) ?_ ?_; (repeat (first | exact Ext.refl _ | assumption | apply Ext.alloc | (refine Ext.trans ?_ (by assumption)))); simp only [sumsS, isS_eq]; simp [*]; done)
      | (refine RStrs.m2 (by simp) ?_ ?_; (repeat (first | exact Ext.refl _ | assumption | apply Ext.alloc | (refine Ext.trans ?_ (by assumption)))); simp only [sumsS, isS_eq]; simp [*]; done)
      | (refine RStrs.m3 (by simp) ?_ ?_; (repeat (first | exact Ext.refl _ | assumption | apply Ext.alloc | (refine Ext.trans ?_ (by assumption)))); simp only [sumsS, isS_eq]; simp [*]; done)
  rcases Bool.eq_false_or_eq_true (name.toList == [65, 78, 73]) with h10 | h10
  · go_enter Tryz.func163, Tryz.ntmps163
    go_wp2_with (go_at_call 161; (with_reducible refine (zwords_any _ _).mono ?_); rintro e w' ⟨rfl, rfl⟩)
    go_ret
    first
      | (refine RStrs.m1 (by simp) ?_ ?_; (repeat (first | exact Ext.refl _ | assumption | apply Ext.alloc | (refine Ext.trans ?_ (by assumption)))); simp only [sumsS, isS_eq]; simp [*]; done)
      | (refine RStrs.m2 (by simp) ?_ ?_; (repeat (first | exact Ext.refl _ | assumption | apply Ext.alloc | (refine Ext.trans ?_ (by assumption)))); simp only [sumsS, isS_eq]; simp [*]; done)
      | (refine RStrs.m3 (by simp) ?_ ?_; (repeat (first | exact Ext.refl _ | assumption | apply Ext.alloc | (refine Ext.trans ?_ (by assumption)))); simp only [sumsS, isS_eq]; simp [*]; done)
  rcases Bool.eq_false_or_eq_true (name.toList == [88, 82, 65]) with h11 | h11
  · go_enter Tryz.func163, Tryz.ntmps163
    go_wp2_with (go_at_call 161; (with_reducible refine (zwords_any _ _).mono ?_); rintro e w' ⟨rfl, rfl⟩)
    go_ret
    first
      | (refine RStrs.m1 (by simp) ?_ ?_; (repeat (first | exact Ext.refl _ | assumption | apply Ext.alloc | (refine Ext.trans ?_ (by assumption)))); simp only [sumsS, isS_eq]; simp [*]; done)
      | (refine RStrs.m2 (by simp) ?_ ?_; (repeat (first | exact Ext.refl _ | assumption | apply Ext.alloc | (refine Ext.trans ?_ (by assumption)))); simp only [sumsS, isS_eq]; simp [*]; done)
      | (refine RStrs.m3 (by simp) ?_ ?_; (repeat (first | exact Ext.refl _ | assumption | apply Ext.alloc | (refine Ext.trans ?_ (by assumption)))); simp only [sumsS, isS_eq]; simp [*]; done)
  rcases Bool.eq_false_or_eq_true (name.toList == [88, 82, 73]) with h12 | h12
  · go_enter Tryz.func163, Tryz.ntmps163
    go_wp2_with (go_at_call 161; (with_reducible refine (zwords_any _ _).mono ?_); rintro e w' ⟨rfl, rfl⟩)
    go_ret
    first
      | (refine RStrs.m1 (by simp) ?_ ?_; (repeat (first | exact Ext.refl _ | assumption | apply Ext.alloc | (refine Ext.trans ?_ (by assumption)))); simp only [sumsS, isS_eq]; simp [*]; done)
      | (refine RStrs.m2 (by simp) ?_ ?_; (repeat (first | exact Ext.refl _ | assumption | apply Ext.alloc | (refine Ext.trans ?_ (by assumption)))); simp only [sumsS, isS_eq]; simp [*]; done)
      | (refine RStrs.m3 (by simp) ?_ ?_; (repeat (first | exact Ext.refl _ | assumption | apply Ext.alloc | (refine Ext.trans ?_ (by assumption)))); simp only [sumsS, isS_eq]; simp [*]; done)
  rcases Bool.eq_false_or_eq_true (name.toList == [79, 82, 65]) with h13 | h13
  · go_enter Tryz.func163, Tryz.ntmps163
    go_wp2_with (go_at_call 161; (with_reducible refine (zwords_any _ _).mono ?_); rintro e w' ⟨rfl, rfl⟩)
    go_ret
    first
      | (refine RStrs.m1 (by simp) ?_ ?_; (repeat (first | exact Ext.refl _ | assumption | apply Ext.alloc | (refine Ext.trans ?_ (by assumption)))); simp only [sumsS, isS_eq]; simp [*]; done)
      | (refine RStrs.m2 (by simp) ?_ ?_; (repeat (first | exact Ext.refl _ | assumption | apply Ext.alloc | (refine Ext.trans ?_ (by assumption)))); simp only [sumsS, isS_eq]; simp [*]; done)
      | (refine RStrs.m3 (by simp) ?_ ?_; (repeat (first | exact Ext.refl _ | assumption | apply Ext.alloc | (refine Ext.trans ?_ (by assumption)))); simp only [sumsS, isS_eq]; simp [*]; done)
  rcases Bool.eq_false_or_eq_true (name.toList == [79, 82, 73]) with h14 | h14
  · go_enter Tryz.func163, Tryz.ntmps163
    go_wp2_with (go_at_call 161; (with_reducible refine (zwords_any _ _).mono ?_); rintro e w' ⟨rfl, rfl⟩)
    go_ret
    first
      | (refine RStrs.m1 (by simp) ?_ ?_; (repeat (first | exact Ext.refl _ | assumption | apply Ext.alloc | (refine Ext.trans ?_ (by assumption)))); simp only [sumsS, isS_eq]; simp [*]; done)
      | (refine RStrs.m2 (by simp) ?_ ?_; (repeat (first | exact Ext.refl _ | assumption | apply Ext.alloc | (refine Ext.trans ?_ (by assumption)))); simp only [sumsS, isS_eq]; simp [*]; done)
      | (refine RStrs.m3 (by simp) ?_ ?_; (repeat (first | exact Ext.refl _ | assumption | apply Ext.alloc | (refine Ext.trans ?_ (by assumption)))); simp only [sumsS, isS_eq]; simp [*]; done)
  go_enter Tryz.func163, Tryz.ntmps163
  go_wp2_with (go_at_call 161; (with_reducible refine (zwords_any _ _).mono ?_); rintro e w' ⟨rfl, rfl⟩)
  go_ret
  first
    | (refine RStrs.m1 (by simp) ?_ ?_; (repeat (first | exact Ext.refl _ | assumption | apply Ext.alloc | (refine Ext.trans ?_ (by assumption)))); simp only [sumsS, isS_eq]; simp [*]; done)
    | (refine RStrs.m2 (by simp) ?_ ?_; (repeat (first | exact Ext.refl _ | assumption | apply Ext.alloc | (refine Ext.trans ?_ (by assumption)))); simp only [sumsS, isS_eq]; simp [*]; done)
    | (refine RStrs.m3 (by simp) ?_ ?_; (repeat (first | exact Ext.refl _ | assumption | apply Ext.alloc | (refine Ext.trans ?_ (by assumption)))); simp only [sumsS, isS_eq]; simp [*]; done)

def plainS (name : ByteArray) : List ByteArray :=
  if isS name [83, 72, 76, 68] = true then [⟨#[76, 68]⟩, ⟨#[40, 110, 110, 41]⟩, ⟨#[72, 76]⟩] else
  if isS name [76, 72, 76, 68] = true then [⟨#[76, 68]⟩, ⟨#[72, 76]⟩, ⟨#[40, 110, 110, 41]⟩] else
  if isS name [83, 84, 65] = true then [⟨#[76, 68]⟩, ⟨#[40, 110, 110, 41]⟩, ⟨#[65]⟩] else
  if isS name [76, 68, 65] = true then [⟨#[76, 68]⟩, ⟨#[65]⟩, ⟨#[40, 110, 110, 41]⟩] else
  if isS name [83, 80, 72, 76] = true then [⟨#[76, 68]⟩, ⟨#[83, 80]⟩, ⟨#[72, 76]⟩] else
  if isS name [80, 67, 72, 76] = true then [⟨#[74, 80]⟩, ⟨#[40, 72, 76, 41]⟩] else
  if isS name [88, 84, 72, 76] = true then [⟨#[69, 88]⟩, ⟨#[40, 83, 80, 41]⟩, ⟨#[72, 76]⟩] else
  if isS name [88, 67, 72, 71] = true then [⟨#[69, 88]⟩, ⟨#[68, 69]⟩, ⟨#[72, 76]⟩] else
  if isS name [79, 85, 84] = true then [⟨#[79, 85, 84]⟩, ⟨#[40, 110, 41]⟩, ⟨#[65]⟩] else
  if isS name [73, 78] = true then [⟨#[73, 78]⟩, ⟨#[65]⟩, ⟨#[40, 110, 41]⟩] else
  if isS name [74, 77, 80] = true then [⟨#[74, 80]⟩, ⟨#[110, 110]⟩] else
  if isS name [67, 65, 76, 76] = true then [⟨#[67, 65, 76, 76]⟩, ⟨#[110, 110]⟩] else
  [oneS name]

theorem plain_any (name : ByteArray) (hz : name.size ≤ 1000) (w : World) : Calls Tryz.prog 166 #[.string name] w (RStrs w (plainS name)) := by
  rcases Bool.eq_false_or_eq_true (name.toList == [83, 72, 76, 68]) with h1 | h1
  · go_enter Tryz.func166, Tryz.ntmps166
    go_wp2_with (first
      | (go_at_call 161; (with_reducible refine (zwords_any _ _).mono ?_); rintro e w' ⟨rfl, rfl⟩)
      | (go_at_call 198; (with_reducible refine (zone_any _ hz _).mono ?_); rintro e w' ⟨rfl, rfl⟩))
    go_ret
    first
      | (refine RStrs.m1 (by simp) ?_ ?_; (repeat (first | exact Ext.refl _ | assumption | apply Ext.alloc | (refine Ext.trans ?_ (by assumption)))); simp only [plainS, isS_eq]; simp [*]; done)
      | (refine RStrs.m2 (by simp) ?_ ?_; (repeat (first | exact Ext.refl _ | assumption | apply Ext.alloc | (refine Ext.trans ?_ (by assumption)))); simp only [plainS, isS_eq]; simp [*]; done)
      | (refine RStrs.m3 (by simp) ?_ ?_; (repeat (first | exact Ext.refl _ | assumption | apply Ext.alloc | (refine Ext.trans ?_ (by assumption)))); simp only [plainS, isS_eq]; simp [*]; done)
  rcases Bool.eq_false_or_eq_true (name.toList == [76, 72, 76, 68]) with h2 | h2
  · go_enter Tryz.func166, Tryz.ntmps166
    go_wp2_with (first
      | (go_at_call 161; (with_reducible refine (zwords_any _ _).mono ?_); rintro e w' ⟨rfl, rfl⟩)
      | (go_at_call 198; (with_reducible refine (zone_any _ hz _).mono ?_); rintro e w' ⟨rfl, rfl⟩))
    go_ret
    first
      | (refine RStrs.m1 (by simp) ?_ ?_; (repeat (first | exact Ext.refl _ | assumption | apply Ext.alloc | (refine Ext.trans ?_ (by assumption)))); simp only [plainS, isS_eq]; simp [*]; done)
      | (refine RStrs.m2 (by simp) ?_ ?_; (repeat (first | exact Ext.refl _ | assumption | apply Ext.alloc | (refine Ext.trans ?_ (by assumption)))); simp only [plainS, isS_eq]; simp [*]; done)
      | (refine RStrs.m3 (by simp) ?_ ?_; (repeat (first | exact Ext.refl _ | assumption | apply Ext.alloc | (refine Ext.trans ?_ (by assumption)))); simp only [plainS, isS_eq]; simp [*]; done)
  rcases Bool.eq_false_or_eq_true (name.toList == [83, 84, 65]) with h3 | h3
  · go_enter Tryz.func166, Tryz.ntmps166
    go_wp2_with (first
      | (go_at_call 161; (with_reducible refine (zwords_any _ _).mono ?_); rintro e w' ⟨rfl, rfl⟩)
      | (go_at_call 198; (with_reducible refine (zone_any _ hz _).mono ?_); rintro e w' ⟨rfl, rfl⟩))
    go_ret
    first
      | (refine RStrs.m1 (by simp) ?_ ?_; (repeat (first | exact Ext.refl _ | assumption | apply Ext.alloc | (refine Ext.trans ?_ (by assumption)))); simp only [plainS, isS_eq]; simp [*]; done)
      | (refine RStrs.m2 (by simp) ?_ ?_; (repeat (first | exact Ext.refl _ | assumption | apply Ext.alloc | (refine Ext.trans ?_ (by assumption)))); simp only [plainS, isS_eq]; simp [*]; done)
      | (refine RStrs.m3 (by simp) ?_ ?_; (repeat (first | exact Ext.refl _ | assumption | apply Ext.alloc | (refine Ext.trans ?_ (by assumption)))); simp only [plainS, isS_eq]; simp [*]; done)
  rcases Bool.eq_false_or_eq_true (name.toList == [76, 68, 65]) with h4 | h4
  · go_enter Tryz.func166, Tryz.ntmps166
    go_wp2_with (first
      | (go_at_call 161; (with_reducible refine (zwords_any _ _).mono ?_); rintro e w' ⟨rfl, rfl⟩)
      | (go_at_call 198; (with_reducible refine (zone_any _ hz _).mono ?_); rintro e w' ⟨rfl, rfl⟩))
    go_ret
    first
      | (refine RStrs.m1 (by simp) ?_ ?_; (repeat (first | exact Ext.refl _ | assumption | apply Ext.alloc | (refine Ext.trans ?_ (by assumption)))); simp only [plainS, isS_eq]; simp [*]; done)
      | (refine RStrs.m2 (by simp) ?_ ?_; (repeat (first | exact Ext.refl _ | assumption | apply Ext.alloc | (refine Ext.trans ?_ (by assumption)))); simp only [plainS, isS_eq]; simp [*]; done)
      | (refine RStrs.m3 (by simp) ?_ ?_; (repeat (first | exact Ext.refl _ | assumption | apply Ext.alloc | (refine Ext.trans ?_ (by assumption)))); simp only [plainS, isS_eq]; simp [*]; done)
  rcases Bool.eq_false_or_eq_true (name.toList == [83, 80, 72, 76]) with h5 | h5
  · go_enter Tryz.func166, Tryz.ntmps166
    go_wp2_with (first
      | (go_at_call 161; (with_reducible refine (zwords_any _ _).mono ?_); rintro e w' ⟨rfl, rfl⟩)
      | (go_at_call 198; (with_reducible refine (zone_any _ hz _).mono ?_); rintro e w' ⟨rfl, rfl⟩))
    go_ret
    first
      | (refine RStrs.m1 (by simp) ?_ ?_; (repeat (first | exact Ext.refl _ | assumption | apply Ext.alloc | (refine Ext.trans ?_ (by assumption)))); simp only [plainS, isS_eq]; simp [*]; done)
      | (refine RStrs.m2 (by simp) ?_ ?_; (repeat (first | exact Ext.refl _ | assumption | apply Ext.alloc | (refine Ext.trans ?_ (by assumption)))); simp only [plainS, isS_eq]; simp [*]; done)
      | (refine RStrs.m3 (by simp) ?_ ?_; (repeat (first | exact Ext.refl _ | assumption | apply Ext.alloc | (refine Ext.trans ?_ (by assumption)))); simp only [plainS, isS_eq]; simp [*]; done)
  rcases Bool.eq_false_or_eq_true (name.toList == [80, 67, 72, 76]) with h6 | h6
  · go_enter Tryz.func166, Tryz.ntmps166
    go_wp2_with (first
      | (go_at_call 161; (with_reducible refine (zwords_any _ _).mono ?_); rintro e w' ⟨rfl, rfl⟩)
      | (go_at_call 198; (with_reducible refine (zone_any _ hz _).mono ?_); rintro e w' ⟨rfl, rfl⟩))
    go_ret
    first
      | (refine RStrs.m1 (by simp) ?_ ?_; (repeat (first | exact Ext.refl _ | assumption | apply Ext.alloc | (refine Ext.trans ?_ (by assumption)))); simp only [plainS, isS_eq]; simp [*]; done)
      | (refine RStrs.m2 (by simp) ?_ ?_; (repeat (first | exact Ext.refl _ | assumption | apply Ext.alloc | (refine Ext.trans ?_ (by assumption)))); simp only [plainS, isS_eq]; simp [*]; done)
      | (refine RStrs.m3 (by simp) ?_ ?_; (repeat (first | exact Ext.refl _ | assumption | apply Ext.alloc | (refine Ext.trans ?_ (by assumption)))); simp only [plainS, isS_eq]; simp [*]; done)
  rcases Bool.eq_false_or_eq_true (name.toList == [88, 84, 72, 76]) with h7 | h7
  · go_enter Tryz.func166, Tryz.ntmps166
    go_wp2_with (first
      | (go_at_call 161; (with_reducible refine (zwords_any _ _).mono ?_); rintro e w' ⟨rfl, rfl⟩)
      | (go_at_call 198; (with_reducible refine (zone_any _ hz _).mono ?_); rintro e w' ⟨rfl, rfl⟩))
    go_ret
    first
      | (refine RStrs.m1 (by simp) ?_ ?_; (repeat (first | exact Ext.refl _ | assumption | apply Ext.alloc | (refine Ext.trans ?_ (by assumption)))); simp only [plainS, isS_eq]; simp [*]; done)
      | (refine RStrs.m2 (by simp) ?_ ?_; (repeat (first | exact Ext.refl _ | assumption | apply Ext.alloc | (refine Ext.trans ?_ (by assumption)))); simp only [plainS, isS_eq]; simp [*]; done)
      | (refine RStrs.m3 (by simp) ?_ ?_; (repeat (first | exact Ext.refl _ | assumption | apply Ext.alloc | (refine Ext.trans ?_ (by assumption)))); simp only [plainS, isS_eq]; simp [*]; done)
  rcases Bool.eq_false_or_eq_true (name.toList == [88, 67, 72, 71]) with h8 | h8
  · go_enter Tryz.func166, Tryz.ntmps166
    go_wp2_with (first
      | (go_at_call 161; (with_reducible refine (zwords_any _ _).mono ?_); rintro e w' ⟨rfl, rfl⟩)
      | (go_at_call 198; (with_reducible refine (zone_any _ hz _).mono ?_); rintro e w' ⟨rfl, rfl⟩))
    go_ret
    first
      | (refine RStrs.m1 (by simp) ?_ ?_; (repeat (first | exact Ext.refl _ | assumption | apply Ext.alloc | (refine Ext.trans ?_ (by assumption)))); simp only [plainS, isS_eq]; simp [*]; done)
      | (refine RStrs.m2 (by simp) ?_ ?_; (repeat (first | exact Ext.refl _ | assumption | apply Ext.alloc | (refine Ext.trans ?_ (by assumption)))); simp only [plainS, isS_eq]; simp [*]; done)
      | (refine RStrs.m3 (by simp) ?_ ?_; (repeat (first | exact Ext.refl _ | assumption | apply Ext.alloc | (refine Ext.trans ?_ (by assumption)))); simp only [plainS, isS_eq]; simp [*]; done)
  rcases Bool.eq_false_or_eq_true (name.toList == [79, 85, 84]) with h9 | h9
  · go_enter Tryz.func166, Tryz.ntmps166
    go_wp2_with (first
      | (go_at_call 161; (with_reducible refine (zwords_any _ _).mono ?_); rintro e w' ⟨rfl, rfl⟩)
      | (go_at_call 198; (with_reducible refine (zone_any _ hz _).mono ?_); rintro e w' ⟨rfl, rfl⟩))
    go_ret
    first
      | (refine RStrs.m1 (by simp) ?_ ?_; (repeat (first | exact Ext.refl _ | assumption | apply Ext.alloc | (refine Ext.trans ?_ (by assumption)))); simp only [plainS, isS_eq]; simp [*]; done)
      | (refine RStrs.m2 (by simp) ?_ ?_; (repeat (first | exact Ext.refl _ | assumption | apply Ext.alloc | (refine Ext.trans ?_ (by assumption)))); simp only [plainS, isS_eq]; simp [*]; done)
      | (refine RStrs.m3 (by simp) ?_ ?_; (repeat (first | exact Ext.refl _ | assumption | apply Ext.alloc | (refine Ext.trans ?_ (by assumption)))); simp only [plainS, isS_eq]; simp [*]; done)
  rcases Bool.eq_false_or_eq_true (name.toList == [73, 78]) with h10 | h10
  · go_enter Tryz.func166, Tryz.ntmps166
    go_wp2_with (first
      | (go_at_call 161; (with_reducible refine (zwords_any _ _).mono ?_); rintro e w' ⟨rfl, rfl⟩)
      | (go_at_call 198; (with_reducible refine (zone_any _ hz _).mono ?_); rintro e w' ⟨rfl, rfl⟩))
    go_ret
    first
      | (refine RStrs.m1 (by simp) ?_ ?_; (repeat (first | exact Ext.refl _ | assumption | apply Ext.alloc | (refine Ext.trans ?_ (by assumption)))); simp only [plainS, isS_eq]; simp [*]; done)
      | (refine RStrs.m2 (by simp) ?_ ?_; (repeat (first | exact Ext.refl _ | assumption | apply Ext.alloc | (refine Ext.trans ?_ (by assumption)))); simp only [plainS, isS_eq]; simp [*]; done)
      | (refine RStrs.m3 (by simp) ?_ ?_; (repeat (first | exact Ext.refl _ | assumption | apply Ext.alloc | (refine Ext.trans ?_ (by assumption)))); simp only [plainS, isS_eq]; simp [*]; done)
  rcases Bool.eq_false_or_eq_true (name.toList == [74, 77, 80]) with h11 | h11
  · go_enter Tryz.func166, Tryz.ntmps166
    go_wp2_with (first
      | (go_at_call 161; (with_reducible refine (zwords_any _ _).mono ?_); rintro e w' ⟨rfl, rfl⟩)
      | (go_at_call 198; (with_reducible refine (zone_any _ hz _).mono ?_); rintro e w' ⟨rfl, rfl⟩))
    go_ret
    first
      | (refine RStrs.m1 (by simp) ?_ ?_; (repeat (first | exact Ext.refl _ | assumption | apply Ext.alloc | (refine Ext.trans ?_ (by assumption)))); simp only [plainS, isS_eq]; simp [*]; done)
      | (refine RStrs.m2 (by simp) ?_ ?_; (repeat (first | exact Ext.refl _ | assumption | apply Ext.alloc | (refine Ext.trans ?_ (by assumption)))); simp only [plainS, isS_eq]; simp [*]; done)
      | (refine RStrs.m3 (by simp) ?_ ?_; (repeat (first | exact Ext.refl _ | assumption | apply Ext.alloc | (refine Ext.trans ?_ (by assumption)))); simp only [plainS, isS_eq]; simp [*]; done)
  rcases Bool.eq_false_or_eq_true (name.toList == [67, 65, 76, 76]) with h12 | h12
  · go_enter Tryz.func166, Tryz.ntmps166
    go_wp2_with (first
      | (go_at_call 161; (with_reducible refine (zwords_any _ _).mono ?_); rintro e w' ⟨rfl, rfl⟩)
      | (go_at_call 198; (with_reducible refine (zone_any _ hz _).mono ?_); rintro e w' ⟨rfl, rfl⟩))
    go_ret
    first
      | (refine RStrs.m1 (by simp) ?_ ?_; (repeat (first | exact Ext.refl _ | assumption | apply Ext.alloc | (refine Ext.trans ?_ (by assumption)))); simp only [plainS, isS_eq]; simp [*]; done)
      | (refine RStrs.m2 (by simp) ?_ ?_; (repeat (first | exact Ext.refl _ | assumption | apply Ext.alloc | (refine Ext.trans ?_ (by assumption)))); simp only [plainS, isS_eq]; simp [*]; done)
      | (refine RStrs.m3 (by simp) ?_ ?_; (repeat (first | exact Ext.refl _ | assumption | apply Ext.alloc | (refine Ext.trans ?_ (by assumption)))); simp only [plainS, isS_eq]; simp [*]; done)
  go_enter Tryz.func166, Tryz.ntmps166
  go_wp2_with (first
    | (go_at_call 161; (with_reducible refine (zwords_any _ _).mono ?_); rintro e w' ⟨rfl, rfl⟩)
    | (go_at_call 198; (with_reducible refine (zone_any _ hz _).mono ?_); rintro e w' ⟨rfl, rfl⟩))
  go_ret
  first
    | (refine RStrs.m1 (by simp) ?_ ?_; (repeat (first | exact Ext.refl _ | assumption | apply Ext.alloc | (refine Ext.trans ?_ (by assumption)))); simp only [plainS, isS_eq]; simp [*]; done)
    | (refine RStrs.m2 (by simp) ?_ ?_; (repeat (first | exact Ext.refl _ | assumption | apply Ext.alloc | (refine Ext.trans ?_ (by assumption)))); simp only [plainS, isS_eq]; simp [*]; done)
    | (refine RStrs.m3 (by simp) ?_ ?_; (repeat (first | exact Ext.refl _ | assumption | apply Ext.alloc | (refine Ext.trans ?_ (by assumption)))); simp only [plainS, isS_eq]; simp [*]; done)
end

section
set_option linter.unusedVariables false
open Go.RowKit
set_option maxRecDepth 100000
set_option maxHeartbeats 4000000
set_option linter.unusedSimpArgs false

def loadsS (name : ByteArray) (a : List ByteArray) : List ByteArray :=
  if isS name [77, 79, 86] = true ∨ isS name [77, 86, 73] = true then [⟨#[76, 68]⟩, argS (a.getD 0 ⟨#[]⟩), argS (a.getD 1 ⟨#[]⟩)] else
  if isS name [76, 88, 73] = true then [⟨#[76, 68]⟩, (zpairS (a.getD 0 ⟨#[]⟩)), ⟨#[110, 110]⟩] else
  if isS name [83, 84, 65, 88] = true then [⟨#[76, 68]⟩, ((⟨#[40]⟩ : ByteArray) ++ zpairS (a.getD 0 ⟨#[]⟩) ++ (⟨#[41]⟩ : ByteArray)), ⟨#[65]⟩] else
  if isS name [76, 68, 65, 88] = true then [⟨#[76, 68]⟩, ⟨#[65]⟩, ((⟨#[40]⟩ : ByteArray) ++ zpairS (a.getD 0 ⟨#[]⟩) ++ (⟨#[41]⟩ : ByteArray))] else
  if isS name [73, 78, 88] = true then [⟨#[73, 78, 67]⟩, (zpairS (a.getD 0 ⟨#[]⟩))] else
  if isS name [68, 67, 88] = true then [⟨#[68, 69, 67]⟩, (zpairS (a.getD 0 ⟨#[]⟩))] else
  if isS name [68, 65, 68] = true then [⟨#[65, 68, 68]⟩, ⟨#[72, 76]⟩, (zpairS (a.getD 0 ⟨#[]⟩))] else
  if isS name [73, 78, 82] = true then [⟨#[73, 78, 67]⟩, argS (a.getD 0 ⟨#[]⟩)] else
  if isS name [68, 67, 82] = true then [⟨#[68, 69, 67]⟩, argS (a.getD 0 ⟨#[]⟩)] else
  if isS name [80, 79, 80] = true ∨ isS name [80, 85, 83, 72] = true then [name, (zpairS (a.getD 0 ⟨#[]⟩))] else
  []

/-- How many operands it reads. -/
def loadsN (name : ByteArray) : Nat :=
  if isS name [77, 79, 86] = true ∨ isS name [77, 86, 73] = true then 2 else
  if isS name [76, 88, 73] = true then 1 else
  if isS name [83, 84, 65, 88] = true then 1 else
  if isS name [76, 68, 65, 88] = true then 1 else
  if isS name [73, 78, 88] = true then 1 else
  if isS name [68, 67, 88] = true then 1 else
  if isS name [68, 65, 68] = true then 1 else
  if isS name [73, 78, 82] = true then 1 else
  if isS name [68, 67, 82] = true then 1 else
  if isS name [80, 79, 80] = true ∨ isS name [80, 85, 83, 72] = true then 1 else
  0

theorem zarg_eq (s : ByteArray) (w : World) : Calls Tryz.prog 164 #[.string s] w fun e w' => e = .returned (.string (argS s)) ∧ w' = w := (zarg_any s w).mono fun e w' ⟨he, hw⟩ => ⟨he, hw.symm⟩

theorem zpairS_size (s : ByteArray) (h : s.size ≤ 100) : (zpairS s).size ≤ 100 := by
  unfold zpairS
  repeat' split
  all_goals first | exact h | decide

theorem loads_any (name : ByteArray) (a : List ByteArray) (v : Value) (w : World) (hs : Strs w v a) (hn : loadsN name ≤ a.length) (hz : (a.getD 0 ⟨#[]⟩).size ≤ 100) :
    Calls Tryz.prog 165 #[.string name, v] w fun e w' => ∃ r, e = .returned r ∧ Strs w' r (loadsS name a) ∧ (loadsS name a = [] → r = .slice none 0 0) ∧ Ext w w' := by
  obtain ⟨A, c, rfl, hc1, hc2, h3⟩ := hs.open
  clear hs
  have hpz := zpairS_size _ hz
  rcases Bool.eq_false_or_eq_true (name.toList == [77, 79, 86]) with t1 | t1
  · have hN : 2 ≤ a.length := by
      have : loadsN name = 2 := by simp only [loadsN, isS_eq]; simp [*]
      omega
    have hS : loadsS name a = [⟨#[76, 68]⟩, argS (a.getD 0 ⟨#[]⟩), argS (a.getD 1 ⟨#[]⟩)] := by simp only [loadsS, isS_eq]; simp [*]
    obtain ⟨b, o, rfl, hlt, hc⟩ := h3 (by omega)
    have c0 := hc 0 (by omega)
    simp only [Nat.add_zero] at c0
    have c1 := hc 1 (by omega)
    generalize a.getD 1 ⟨#[]⟩ = x1 at *
    generalize a.getD 0 ⟨#[]⟩ = x0 at *
    have hl0 : (0 : Int) < (a.length : Int) := by omega
    have hl2 : 0 < a.length := by omega
    have hl3 : 1 < a.length := by omega
    have hl1 : (1 : Int) < (a.length : Int) := by omega
    generalize a.length = L at *
    have HS := Lib.hid hS; clear hS hc h3 hn
    go_enter Tryz.func165, Tryz.ntmps165
    go_wp2
    refine wp_region_still_tail 8 (by kernel_rfl) (by kernel_rfl) ?_
    simp only [List.take_succ_cons, List.take_zero, List.drop_succ_cons, List.drop_zero]
    repeat still_step
    still_call (zarg_eq _ _)
    repeat still_step
    still_call (zarg_eq _ _)
    repeat still_step
    refine wpStill_nil ?_
    change wpList _ _ _ _ _ (World.drew _)
    go_wp2_with (go_at_call 161; (with_reducible refine (zwords_any _ _).mono ?_); rintro e w' ⟨rfl, rfl⟩)
    go_ret
    exact ⟨_, rfl, by rw [HS.out]; first | exact Strs.mk3 _ _ _ _, by rw [HS.out]; intro h; simp at h, by repeat (first | exact Ext.refl _ | apply Ext.alloc | apply Ext.drew)⟩
  rcases Bool.eq_false_or_eq_true (name.toList == [77, 86, 73]) with t2 | t2
  · have hN : 2 ≤ a.length := by
      have : loadsN name = 2 := by simp only [loadsN, isS_eq]; simp [*]
      omega
    have hS : loadsS name a = [⟨#[76, 68]⟩, argS (a.getD 0 ⟨#[]⟩), argS (a.getD 1 ⟨#[]⟩)] := by simp only [loadsS, isS_eq]; simp [*]
    obtain ⟨b, o, rfl, hlt, hc⟩ := h3 (by omega)
    have c0 := hc 0 (by omega)
    simp only [Nat.add_zero] at c0
    have c1 := hc 1 (by omega)
    generalize a.getD 1 ⟨#[]⟩ = x1 at *
    generalize a.getD 0 ⟨#[]⟩ = x0 at *
    have hl0 : (0 : Int) < (a.length : Int) := by omega
    have hl2 : 0 < a.length := by omega
    have hl3 : 1 < a.length := by omega
    have hl1 : (1 : Int) < (a.length : Int) := by omega
    generalize a.length = L at *
    have HS := Lib.hid hS; clear hS hc h3 hn
    go_enter Tryz.func165, Tryz.ntmps165
    go_wp2
    refine wp_region_still_tail 8 (by kernel_rfl) (by kernel_rfl) ?_
    simp only [List.take_succ_cons, List.take_zero, List.drop_succ_cons, List.drop_zero]
    repeat still_step
    still_call (zarg_eq _ _)
    repeat still_step
    still_call (zarg_eq _ _)
    repeat still_step
    refine wpStill_nil ?_
    change wpList _ _ _ _ _ (World.drew _)
    go_wp2_with (go_at_call 161; (with_reducible refine (zwords_any _ _).mono ?_); rintro e w' ⟨rfl, rfl⟩)
    go_ret
    exact ⟨_, rfl, by rw [HS.out]; first | exact Strs.mk3 _ _ _ _, by rw [HS.out]; intro h; simp at h, by repeat (first | exact Ext.refl _ | apply Ext.alloc | apply Ext.drew)⟩
  rcases Bool.eq_false_or_eq_true (name.toList == [76, 88, 73]) with t3 | t3
  · have hN : 1 ≤ a.length := by
      have : loadsN name = 1 := by simp only [loadsN, isS_eq]; simp [*]
      omega
    have hS : loadsS name a = [⟨#[76, 68]⟩, (zpairS (a.getD 0 ⟨#[]⟩)), ⟨#[110, 110]⟩] := by simp only [loadsS, isS_eq]; simp [*]
    obtain ⟨b, o, rfl, hlt, hc⟩ := h3 (by omega)
    have c0 := hc 0 (by omega)
    simp only [Nat.add_zero] at c0
    generalize a.getD 0 ⟨#[]⟩ = x0 at *
    have hl0 : (0 : Int) < (a.length : Int) := by omega
    have hl2 : 0 < a.length := by omega
    have hl3 : 0 < a.length := by omega
    have hl1 : (0 : Int) < (a.length : Int) := by omega
    generalize a.length = L at *
    have HS := Lib.hid hS; clear hS hc h3 hn
    go_enter Tryz.func165, Tryz.ntmps165
    go_wp2_with (first | (go_at_call 164; (with_reducible refine (zarg_any _ _).mono ?_); rintro e w' ⟨rfl, rfl⟩) | (go_at_call 197; (with_reducible refine (zpair_any _ _).mono ?_); rintro e w' ⟨rfl, rfl⟩) | (go_at_call 161; (with_reducible refine (zwords_any _ _).mono ?_); rintro e w' ⟨rfl, rfl⟩))
    go_ret
    exact ⟨_, rfl, by rw [HS.out]; first | exact Strs.mk3 _ _ _ _, by rw [HS.out]; intro h; simp at h, by repeat (first | exact Ext.refl _ | apply Ext.alloc | apply Ext.drew)⟩
  rcases Bool.eq_false_or_eq_true (name.toList == [83, 84, 65, 88]) with t4 | t4
  · have hN : 1 ≤ a.length := by
      have : loadsN name = 1 := by simp only [loadsN, isS_eq]; simp [*]
      omega
    have hS : loadsS name a = [⟨#[76, 68]⟩, ((⟨#[40]⟩ : ByteArray) ++ zpairS (a.getD 0 ⟨#[]⟩) ++ (⟨#[41]⟩ : ByteArray)), ⟨#[65]⟩] := by simp only [loadsS, isS_eq]; simp [*]
    obtain ⟨b, o, rfl, hlt, hc⟩ := h3 (by omega)
    have c0 := hc 0 (by omega)
    simp only [Nat.add_zero] at c0
    generalize a.getD 0 ⟨#[]⟩ = x0 at *
    have hl0 : (0 : Int) < (a.length : Int) := by omega
    have hl2 : 0 < a.length := by omega
    have hl3 : 0 < a.length := by omega
    have hl1 : (0 : Int) < (a.length : Int) := by omega
    generalize a.length = L at *
    have HS := Lib.hid hS; clear hS hc h3 hn
    go_enter Tryz.func165, Tryz.ntmps165
    go_wp2_with (first | (go_at_call 164; (with_reducible refine (zarg_any _ _).mono ?_); rintro e w' ⟨rfl, rfl⟩) | (go_at_call 197; (with_reducible refine (zpair_any _ _).mono ?_); rintro e w' ⟨rfl, rfl⟩) | (go_at_call 161; (with_reducible refine (zwords_any _ _).mono ?_); rintro e w' ⟨rfl, rfl⟩))
    go_ret
    exact ⟨_, rfl, by rw [HS.out]; first | exact Strs.mk3 _ _ _ _, by rw [HS.out]; intro h; simp at h, by repeat (first | exact Ext.refl _ | apply Ext.alloc | apply Ext.drew)⟩
  rcases Bool.eq_false_or_eq_true (name.toList == [76, 68, 65, 88]) with t5 | t5
  · have hN : 1 ≤ a.length := by
      have : loadsN name = 1 := by simp only [loadsN, isS_eq]; simp [*]
      omega
    have hS : loadsS name a = [⟨#[76, 68]⟩, ⟨#[65]⟩, ((⟨#[40]⟩ : ByteArray) ++ zpairS (a.getD 0 ⟨#[]⟩) ++ (⟨#[41]⟩ : ByteArray))] := by simp only [loadsS, isS_eq]; simp [*]
    obtain ⟨b, o, rfl, hlt, hc⟩ := h3 (by omega)
    have c0 := hc 0 (by omega)
    simp only [Nat.add_zero] at c0
    generalize a.getD 0 ⟨#[]⟩ = x0 at *
    have hl0 : (0 : Int) < (a.length : Int) := by omega
    have hl2 : 0 < a.length := by omega
    have hl3 : 0 < a.length := by omega
    have hl1 : (0 : Int) < (a.length : Int) := by omega
    generalize a.length = L at *
    have HS := Lib.hid hS; clear hS hc h3 hn
    go_enter Tryz.func165, Tryz.ntmps165
    go_wp2_with (first | (go_at_call 164; (with_reducible refine (zarg_any _ _).mono ?_); rintro e w' ⟨rfl, rfl⟩) | (go_at_call 197; (with_reducible refine (zpair_any _ _).mono ?_); rintro e w' ⟨rfl, rfl⟩) | (go_at_call 161; (with_reducible refine (zwords_any _ _).mono ?_); rintro e w' ⟨rfl, rfl⟩))
    go_ret
    exact ⟨_, rfl, by rw [HS.out]; first | exact Strs.mk3 _ _ _ _, by rw [HS.out]; intro h; simp at h, by repeat (first | exact Ext.refl _ | apply Ext.alloc | apply Ext.drew)⟩
  rcases Bool.eq_false_or_eq_true (name.toList == [73, 78, 88]) with t6 | t6
  · have hN : 1 ≤ a.length := by
      have : loadsN name = 1 := by simp only [loadsN, isS_eq]; simp [*]
      omega
    have hS : loadsS name a = [⟨#[73, 78, 67]⟩, (zpairS (a.getD 0 ⟨#[]⟩))] := by simp only [loadsS, isS_eq]; simp [*]
    obtain ⟨b, o, rfl, hlt, hc⟩ := h3 (by omega)
    have c0 := hc 0 (by omega)
    simp only [Nat.add_zero] at c0
    generalize a.getD 0 ⟨#[]⟩ = x0 at *
    have hl0 : (0 : Int) < (a.length : Int) := by omega
    have hl2 : 0 < a.length := by omega
    have hl3 : 0 < a.length := by omega
    have hl1 : (0 : Int) < (a.length : Int) := by omega
    generalize a.length = L at *
    have HS := Lib.hid hS; clear hS hc h3 hn
    go_enter Tryz.func165, Tryz.ntmps165
    go_wp2_with (first | (go_at_call 164; (with_reducible refine (zarg_any _ _).mono ?_); rintro e w' ⟨rfl, rfl⟩) | (go_at_call 197; (with_reducible refine (zpair_any _ _).mono ?_); rintro e w' ⟨rfl, rfl⟩) | (go_at_call 161; (with_reducible refine (zwords_any _ _).mono ?_); rintro e w' ⟨rfl, rfl⟩))
    go_ret
    exact ⟨_, rfl, by rw [HS.out]; first | exact Strs.mk2 _ _ _, by rw [HS.out]; intro h; simp at h, by repeat (first | exact Ext.refl _ | apply Ext.alloc | apply Ext.drew)⟩
  rcases Bool.eq_false_or_eq_true (name.toList == [68, 67, 88]) with t7 | t7
  · have hN : 1 ≤ a.length := by
      have : loadsN name = 1 := by simp only [loadsN, isS_eq]; simp [*]
      omega
    have hS : loadsS name a = [⟨#[68, 69, 67]⟩, (zpairS (a.getD 0 ⟨#[]⟩))] := by simp only [loadsS, isS_eq]; simp [*]
    obtain ⟨b, o, rfl, hlt, hc⟩ := h3 (by omega)
    have c0 := hc 0 (by omega)
    simp only [Nat.add_zero] at c0
    generalize a.getD 0 ⟨#[]⟩ = x0 at *
    have hl0 : (0 : Int) < (a.length : Int) := by omega
    have hl2 : 0 < a.length := by omega
    have hl3 : 0 < a.length := by omega
    have hl1 : (0 : Int) < (a.length : Int) := by omega
    generalize a.length = L at *
    have HS := Lib.hid hS; clear hS hc h3 hn
    go_enter Tryz.func165, Tryz.ntmps165
    go_wp2_with (first | (go_at_call 164; (with_reducible refine (zarg_any _ _).mono ?_); rintro e w' ⟨rfl, rfl⟩) | (go_at_call 197; (with_reducible refine (zpair_any _ _).mono ?_); rintro e w' ⟨rfl, rfl⟩) | (go_at_call 161; (with_reducible refine (zwords_any _ _).mono ?_); rintro e w' ⟨rfl, rfl⟩))
    go_ret
    exact ⟨_, rfl, by rw [HS.out]; first | exact Strs.mk2 _ _ _, by rw [HS.out]; intro h; simp at h, by repeat (first | exact Ext.refl _ | apply Ext.alloc | apply Ext.drew)⟩
  rcases Bool.eq_false_or_eq_true (name.toList == [68, 65, 68]) with t8 | t8
  · have hN : 1 ≤ a.length := by
      have : loadsN name = 1 := by simp only [loadsN, isS_eq]; simp [*]
      omega
    have hS : loadsS name a = [⟨#[65, 68, 68]⟩, ⟨#[72, 76]⟩, (zpairS (a.getD 0 ⟨#[]⟩))] := by simp only [loadsS, isS_eq]; simp [*]
    obtain ⟨b, o, rfl, hlt, hc⟩ := h3 (by omega)
    have c0 := hc 0 (by omega)
    simp only [Nat.add_zero] at c0
    generalize a.getD 0 ⟨#[]⟩ = x0 at *
    have hl0 : (0 : Int) < (a.length : Int) := by omega
    have hl2 : 0 < a.length := by omega
    have hl3 : 0 < a.length := by omega
    have hl1 : (0 : Int) < (a.length : Int) := by omega
    generalize a.length = L at *
    have HS := Lib.hid hS; clear hS hc h3 hn
    go_enter Tryz.func165, Tryz.ntmps165
    go_wp2_with (first | (go_at_call 164; (with_reducible refine (zarg_any _ _).mono ?_); rintro e w' ⟨rfl, rfl⟩) | (go_at_call 197; (with_reducible refine (zpair_any _ _).mono ?_); rintro e w' ⟨rfl, rfl⟩) | (go_at_call 161; (with_reducible refine (zwords_any _ _).mono ?_); rintro e w' ⟨rfl, rfl⟩))
    go_ret
    exact ⟨_, rfl, by rw [HS.out]; first | exact Strs.mk3 _ _ _ _, by rw [HS.out]; intro h; simp at h, by repeat (first | exact Ext.refl _ | apply Ext.alloc | apply Ext.drew)⟩
  rcases Bool.eq_false_or_eq_true (name.toList == [73, 78, 82]) with t9 | t9
  · have hN : 1 ≤ a.length := by
      have : loadsN name = 1 := by simp only [loadsN, isS_eq]; simp [*]
      omega
    have hS : loadsS name a = [⟨#[73, 78, 67]⟩, argS (a.getD 0 ⟨#[]⟩)] := by simp only [loadsS, isS_eq]; simp [*]
    obtain ⟨b, o, rfl, hlt, hc⟩ := h3 (by omega)
    have c0 := hc 0 (by omega)
    simp only [Nat.add_zero] at c0
    generalize a.getD 0 ⟨#[]⟩ = x0 at *
    have hl0 : (0 : Int) < (a.length : Int) := by omega
    have hl2 : 0 < a.length := by omega
    have hl3 : 0 < a.length := by omega
    have hl1 : (0 : Int) < (a.length : Int) := by omega
    generalize a.length = L at *
    have HS := Lib.hid hS; clear hS hc h3 hn
    go_enter Tryz.func165, Tryz.ntmps165
    go_wp2_with (first | (go_at_call 164; (with_reducible refine (zarg_any _ _).mono ?_); rintro e w' ⟨rfl, rfl⟩) | (go_at_call 197; (with_reducible refine (zpair_any _ _).mono ?_); rintro e w' ⟨rfl, rfl⟩) | (go_at_call 161; (with_reducible refine (zwords_any _ _).mono ?_); rintro e w' ⟨rfl, rfl⟩))
    go_ret
    exact ⟨_, rfl, by rw [HS.out]; first | exact Strs.mk2 _ _ _, by rw [HS.out]; intro h; simp at h, by repeat (first | exact Ext.refl _ | apply Ext.alloc | apply Ext.drew)⟩
  rcases Bool.eq_false_or_eq_true (name.toList == [68, 67, 82]) with t10 | t10
  · have hN : 1 ≤ a.length := by
      have : loadsN name = 1 := by simp only [loadsN, isS_eq]; simp [*]
      omega
    have hS : loadsS name a = [⟨#[68, 69, 67]⟩, argS (a.getD 0 ⟨#[]⟩)] := by simp only [loadsS, isS_eq]; simp [*]
    obtain ⟨b, o, rfl, hlt, hc⟩ := h3 (by omega)
    have c0 := hc 0 (by omega)
    simp only [Nat.add_zero] at c0
    generalize a.getD 0 ⟨#[]⟩ = x0 at *
    have hl0 : (0 : Int) < (a.length : Int) := by omega
    have hl2 : 0 < a.length := by omega
    have hl3 : 0 < a.length := by omega
    have hl1 : (0 : Int) < (a.length : Int) := by omega
    generalize a.length = L at *
    have HS := Lib.hid hS; clear hS hc h3 hn
    go_enter Tryz.func165, Tryz.ntmps165
    go_wp2_with (first | (go_at_call 164; (with_reducible refine (zarg_any _ _).mono ?_); rintro e w' ⟨rfl, rfl⟩) | (go_at_call 197; (with_reducible refine (zpair_any _ _).mono ?_); rintro e w' ⟨rfl, rfl⟩) | (go_at_call 161; (with_reducible refine (zwords_any _ _).mono ?_); rintro e w' ⟨rfl, rfl⟩))
    go_ret
    exact ⟨_, rfl, by rw [HS.out]; first | exact Strs.mk2 _ _ _, by rw [HS.out]; intro h; simp at h, by repeat (first | exact Ext.refl _ | apply Ext.alloc | apply Ext.drew)⟩
  rcases Bool.eq_false_or_eq_true (name.toList == [80, 79, 80]) with t11 | t11
  · have hN : 1 ≤ a.length := by
      have : loadsN name = 1 := by simp only [loadsN, isS_eq]; simp [*]
      omega
    have hS : loadsS name a = [name, (zpairS (a.getD 0 ⟨#[]⟩))] := by simp only [loadsS, isS_eq]; simp [*]
    obtain ⟨b, o, rfl, hlt, hc⟩ := h3 (by omega)
    have c0 := hc 0 (by omega)
    simp only [Nat.add_zero] at c0
    generalize a.getD 0 ⟨#[]⟩ = x0 at *
    have hl0 : (0 : Int) < (a.length : Int) := by omega
    have hl2 : 0 < a.length := by omega
    have hl3 : 0 < a.length := by omega
    have hl1 : (0 : Int) < (a.length : Int) := by omega
    generalize a.length = L at *
    have HS := Lib.hid hS; clear hS hc h3 hn
    go_enter Tryz.func165, Tryz.ntmps165
    go_wp2_with (first | (go_at_call 164; (with_reducible refine (zarg_any _ _).mono ?_); rintro e w' ⟨rfl, rfl⟩) | (go_at_call 197; (with_reducible refine (zpair_any _ _).mono ?_); rintro e w' ⟨rfl, rfl⟩) | (go_at_call 161; (with_reducible refine (zwords_any _ _).mono ?_); rintro e w' ⟨rfl, rfl⟩))
    go_ret
    exact ⟨_, rfl, by rw [HS.out]; first | exact Strs.mk2 _ _ _, by rw [HS.out]; intro h; simp at h, by repeat (first | exact Ext.refl _ | apply Ext.alloc | apply Ext.drew)⟩
  rcases Bool.eq_false_or_eq_true (name.toList == [80, 85, 83, 72]) with t12 | t12
  · have hN : 1 ≤ a.length := by
      have : loadsN name = 1 := by simp only [loadsN, isS_eq]; simp [*]
      omega
    have hS : loadsS name a = [name, (zpairS (a.getD 0 ⟨#[]⟩))] := by simp only [loadsS, isS_eq]; simp [*]
    obtain ⟨b, o, rfl, hlt, hc⟩ := h3 (by omega)
    have c0 := hc 0 (by omega)
    simp only [Nat.add_zero] at c0
    generalize a.getD 0 ⟨#[]⟩ = x0 at *
    have hl0 : (0 : Int) < (a.length : Int) := by omega
    have hl2 : 0 < a.length := by omega
    have hl3 : 0 < a.length := by omega
    have hl1 : (0 : Int) < (a.length : Int) := by omega
    generalize a.length = L at *
    have HS := Lib.hid hS; clear hS hc h3 hn
    go_enter Tryz.func165, Tryz.ntmps165
    go_wp2_with (first | (go_at_call 164; (with_reducible refine (zarg_any _ _).mono ?_); rintro e w' ⟨rfl, rfl⟩) | (go_at_call 197; (with_reducible refine (zpair_any _ _).mono ?_); rintro e w' ⟨rfl, rfl⟩) | (go_at_call 161; (with_reducible refine (zwords_any _ _).mono ?_); rintro e w' ⟨rfl, rfl⟩))
    go_ret
    exact ⟨_, rfl, by rw [HS.out]; first | exact Strs.mk2 _ _ _, by rw [HS.out]; intro h; simp at h, by repeat (first | exact Ext.refl _ | apply Ext.alloc | apply Ext.drew)⟩
  have hS : loadsS name a = [] := by simp only [loadsS, isS_eq]; simp [*]
  have HS := Lib.hid hS; clear hS h3 hn
  go_enter Tryz.func165, Tryz.ntmps165
  go_wp2
  go_ret
  exact ⟨_, rfl, by rw [HS.out]; exact Strs.nil _, fun _ => rfl, Ext.refl _⟩
end
end Go.Proofs.YtnklmehphmidhaaGreatDoor
