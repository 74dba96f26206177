/- zilog: loads. -/
import Derived.Test.YtnklmehphmidhaaGreatDoorZia
import Derived.StillTailTactics
namespace Go.Proofs.YtnklmehphmidhaaGreatDoor
open Go.RowKit
set_option maxRecDepth 100000
set_option maxHeartbeats 4000000
set_option linter.unusedSimpArgs false

def loadsS (name : ByteArray) (a : List ByteArray) : List ByteArray :=
  if isS name [77, 79, 86] = true ∨ isS name [77, 86, 73] = true then [⟨#[76, 68]⟩, argS (a.getD 0 ⟨#[]⟩), argS (a.getD 1 ⟨#[]⟩)] else
  if isS name [76, 88, 73] = true then [⟨#[76, 68]⟩, (zpairS (a.getD 0 ⟨#[]⟩)), ⟨#[110, 110]⟩] else
  if isS name [83, 84, 65, 88] = true then [⟨#[76, 68]⟩, ((⟨#[40]⟩ : ByteArray) ++ zpairS (a.getD 0 ⟨#[]⟩) ++ (⟨#[41]⟩ : ByteArray)), ⟨#[65]⟩] else
  if isS name [76, 68, 65, 88] = true then [⟨#[76, 68]⟩, ⟨#[65]⟩, ((⟨#[40]⟩ : ByteArray) ++ zpairS (a.getD 0 ⟨#[]⟩) ++ (⟨#[41]⟩ : ByteArray))] else
  if isS name [73, 78, 88] = true then [⟨#[73, 78, 67]⟩, (zpairS (a.getD 0 ⟨#[]⟩))] else
  if isS name [68, 67, 88] = true then [⟨#[68, 69, 67]⟩, (zpairS (a.getD 0 ⟨#[]⟩))] else
  if isS name [68, 65, 68] = true then [⟨#[65, 68, 68]⟩, ⟨#[72, 76]⟩, (zpairS (a.getD 0 ⟨#[]⟩))] else
  if isS name [73, 78, 82] = true then [⟨#[73, 78, 67]⟩, argS (a.getD 0 ⟨#[]⟩)] else
  if isS name [68, 67, 82] = true then [⟨#[68, 69, 67]⟩, argS (a.getD 0 ⟨#[]⟩)] else
  if isS name [80, 79, 80] = true ∨ isS name [80, 85, 83, 72] = true then [name, (zpairS (a.getD 0 ⟨#[]⟩))] else
  []

/-- How many operands it reads. -/
def loadsN (name : ByteArray) : Nat :=
  if isS name [77, 79, 86] = true ∨ isS name [77, 86, 73] = true then 2 else
  if isS name [76, 88, 73] = true then 1 else
  if isS name [83, 84, 65, 88] = true then 1 else
  if isS name [76, 68, 65, 88] = true then 1 else
  if isS name [73, 78, 88] = true then 1 else
  if isS name [68, 67, 88] = true then 1 else
  if isS name [68, 65, 68] = true then 1 else
  if isS name [73, 78, 82] = true then 1 else
  if isS name [68, 67, 82] = true then 1 else
  if isS name [80, 79, 80] = true ∨ isS name [80, 85, 83, 72] = true then 1 else
  0

theorem zarg_eq (s : ByteArray) (w : World) : Calls Tryz.prog 164 #[.string s] w fun e w' => e = .returned (.string (argS s)) ∧ w' = w := (zarg_any s w).mono fun e w' ⟨he, hw⟩ => ⟨he, hw.symm⟩

theorem zpairS_size (s : ByteArray) (h : s.size ≤ 100) : (zpairS s).size ≤ 100 := by
  unfold zpairS
  repeat' split
  all_goals first | exact h | decide

theorem loads_any (name : ByteArray) (a : List ByteArray) (v : Value) (w : World) (hs : Strs w v a) (hn : loadsN name ≤ a.length) (hz : (a.getD 0 ⟨#[]⟩).size ≤ 100) :
    Calls Tryz.prog 165 #[.string name, v] w fun e w' => ∃ r, e = .returned r ∧ Strs w' r (loadsS name a) ∧ (loadsS name a = [] → r = .slice none 0 0) ∧ Ext w w' := by
  obtain ⟨A, c, rfl, hc1, hc2, h3⟩ := hs.open
  clear hs
  have hpz := zpairS_size _ hz
  rcases Bool.eq_false_or_eq_true (name.toList == [77, 79, 86]) with t1 | t1
  · have hN : 2 ≤ a.length := by
      have : loadsN name = 2 := by simp only [loadsN, isS_eq]; simp [*]
      omega
    have hS : loadsS name a = [⟨#[76, 68]⟩, argS (a.getD 0 ⟨#[]⟩), argS (a.getD 1 ⟨#[]⟩)] := by simp only [loadsS, isS_eq]; simp [*]
    obtain ⟨b, o, rfl, hlt, hc⟩ := h3 (by omega)
    have c0 := hc 0 (by omega)
    simp only [Nat.add_zero] at c0
    have c1 := hc 1 (by omega)
    generalize a.getD 1 ⟨#[]⟩ = x1 at *
    generalize a.getD 0 ⟨#[]⟩ = x0 at *
    have hl0 : (0 : Int) < (a.length : Int) := by omega
    have hl2 : 0 < a.length := by omega
    have hl3 : 1 < a.length := by omega
    have hl1 : (1 : Int) < (a.length : Int) := by omega
    generalize a.length = L at *
    have HS := Lib.hid hS; clear hS hc h3 hn
    go_enter Tryz.func165, Tryz.ntmps165
    go_wp2
    refine wp_region_still_tail 8 (by kernel_rfl) (by kernel_rfl) ?_
    simp only [List.take_succ_cons, List.take_zero, List.drop_succ_cons, List.drop_zero]
    repeat still_step
    still_call (zarg_eq _ _)
    repeat still_step
    still_call (zarg_eq _ _)
    repeat still_step
    refine wpStill_nil ?_
    change wpList _ _ _ _ _ (World.drew _)
    go_wp2_with (go_at_call 161; (with_reducible refine (zwords_any _ _).mono ?_); rintro e w' ⟨rfl, rfl⟩)
    go_ret
    exact ⟨_, rfl, by rw [HS.out]; first | exact Strs.mk3 _ _ _ _, by rw [HS.out]; intro h; simp at h, by repeat (first | exact Ext.refl _ | apply Ext.alloc | apply Ext.drew)⟩
  rcases Bool.eq_false_or_eq_true (name.toList == [77, 86, 73]) with t2 | t2
  · have hN : 2 ≤ a.length := by
      have : loadsN name = 2 := by simp only [loadsN, isS_eq]; simp [*]
      omega
    have hS : loadsS name a = [⟨#[76, 68]⟩, argS (a.getD 0 ⟨#[]⟩), argS (a.getD 1 ⟨#[]⟩)] := by simp only [loadsS, isS_eq]; simp [*]
    obtain ⟨b, o, rfl, hlt, hc⟩ := h3 (by omega)
    have c0 := hc 0 (by omega)
    simp only [Nat.add_zero] at c0
    have c1 := hc 1 (by omega)
    generalize a.getD 1 ⟨#[]⟩ = x1 at *
    generalize a.getD 0 ⟨#[]⟩ = x0 at *
    have hl0 : (0 : Int) < (a.length : Int) := by omega
    have hl2 : 0 < a.length := by omega
    have hl3 : 1 < a.length := by omega
    have hl1 : (1 : Int) < (a.length : Int) := by omega
    generalize a.length = L at *
    have HS := Lib.hid hS; clear hS hc h3 hn
    go_enter Tryz.func165, Tryz.ntmps165
    go_wp2
    refine wp_region_still_tail 8 (by kernel_rfl) (by kernel_rfl) ?_
    simp only [List.take_succ_cons, List.take_zero, List.drop_succ_cons, List.drop_zero]
    repeat still_step
    still_call (zarg_eq _ _)
    repeat still_step
    still_call (zarg_eq _ _)
    repeat still_step
    refine wpStill_nil ?_
    change wpList _ _ _ _ _ (World.drew _)
    go_wp2_with (go_at_call 161; (with_reducible refine (zwords_any _ _).mono ?_); rintro e w' ⟨rfl, rfl⟩)
    go_ret
    exact ⟨_, rfl, by rw [HS.out]; first | exact Strs.mk3 _ _ _ _, by rw [HS.out]; intro h; simp at h, by repeat (first | exact Ext.refl _ | apply Ext.alloc | apply Ext.drew)⟩
  rcases Bool.eq_false_or_eq_true (name.toList == [76, 88, 73]) with t3 | t3
  · have hN : 1 ≤ a.length := by
      have : loadsN name = 1 := by simp only [loadsN, isS_eq]; simp [*]
      omega
    have hS : loadsS name a = [⟨#[76, 68]⟩, (zpairS (a.getD 0 ⟨#[]⟩)), ⟨#[110, 110]⟩] := by simp only [loadsS, isS_eq]; simp [*]
    obtain ⟨b, o, rfl, hlt, hc⟩ := h3 (by omega)
    have c0 := hc 0 (by omega)
    simp only [Nat.add_zero] at c0
    generalize a.getD 0 ⟨#[]⟩ = x0 at *
    have hl0 : (0 : Int) < (a.length : Int) := by omega
    have hl2 : 0 < a.length := by omega
    have hl3 : 0 < a.length := by omega
    have hl1 : (0 : Int) < (a.length : Int) := by omega
    generalize a.length = L at *
    have HS := Lib.hid hS; clear hS hc h3 hn
    go_enter Tryz.func165, Tryz.ntmps165
    go_wp2_with (first | (go_at_call 164; (with_reducible refine (zarg_any _ _).mono ?_); rintro e w' ⟨rfl, rfl⟩) | (go_at_call 197; (with_reducible refine (zpair_any _ _).mono ?_); rintro e w' ⟨rfl, rfl⟩) | (go_at_call 161; (with_reducible refine (zwords_any _ _).mono ?_); rintro e w' ⟨rfl, rfl⟩))
    go_ret
    exact ⟨_, rfl, by rw [HS.out]; first | exact Strs.mk3 _ _ _ _, by rw [HS.out]; intro h; simp at h, by repeat (first | exact Ext.refl _ | apply Ext.alloc | apply Ext.drew)⟩
  rcases Bool.eq_false_or_eq_true (name.toList == [83, 84, 65, 88]) with t4 | t4
  · have hN : 1 ≤ a.length := by
      have : loadsN name = 1 := by simp only [loadsN, isS_eq]; simp [*]
      omega
    have hS : loadsS name a = [⟨#[76, 68]⟩, ((⟨#[40]⟩ : ByteArray) ++ zpairS (a.getD 0 ⟨#[]⟩) ++ (⟨#[41]⟩ : ByteArray)), ⟨#[65]⟩] := by simp only [loadsS, isS_eq]; simp [*]
    obtain ⟨b, o, rfl, hlt, hc⟩ := h3 (by omega)
    have c0 := hc 0 (by omega)
    simp only [Nat.add_zero] at c0
    generalize a.getD 0 ⟨#[]⟩ = x0 at *
    have hl0 : (0 : Int) < (a.length : Int) := by omega
    have hl2 : 0 < a.length := by omega
    have hl3 : 0 < a.length := by omega
    have hl1 : (0 : Int) < (a.length : Int) := by omega
    generalize a.length = L at *
    have HS := Lib.hid hS; clear hS hc h3 hn
    go_enter Tryz.func165, Tryz.ntmps165
    go_wp2_with (first | (go_at_call 164; (with_reducible refine (zarg_any _ _).mono ?_); rintro e w' ⟨rfl, rfl⟩) | (go_at_call 197; (with_reducible refine (zpair_any _ _).mono ?_); rintro e w' ⟨rfl, rfl⟩) | (go_at_call 161; (with_reducible refine (zwords_any _ _).mono ?_); rintro e w' ⟨rfl, rfl⟩))
    go_ret
    exact ⟨_, rfl, by rw [HS.out]; first | exact Strs.mk3 _ _ _ _, by rw [HS.out]; intro h; simp at h, by repeat (first | exact Ext.refl _ | apply Ext.alloc | apply Ext.drew)⟩
  rcases Bool.eq_false_or_eq_true (name.toList == [76, 68, 65, 88]) with t5 | t5
  · have hN : 1 ≤ a.length := by
      have : loadsN name = 1 := by simp only [loadsN, isS_eq]; simp [*]
      omega
    have hS : loadsS name a = [⟨#[76, 68]⟩, ⟨#[65]⟩, ((⟨#[40]⟩ : ByteArray) ++ zpairS (a.getD 0 ⟨#[]⟩) ++ (⟨#[41]⟩ : ByteArray))] := by simp only [loadsS, isS_eq]; simp [*]
    obtain ⟨b, o, rfl, hlt, hc⟩ := h3 (by omega)
    have c0 := hc 0 (by omega)
    simp only [Nat.add_zero] at c0
    generalize a.getD 0 ⟨#[]⟩ = x0 at *
    have hl0 : (0 : Int) < (a.length : Int) := by omega
    have hl2 : 0 < a.length := by omega
    have hl3 : 0 < a.length := by omega
    have hl1 : (0 : Int) < (a.length : Int) := by omega
    generalize a.length = L at *
    have HS := Lib.hid hS; clear hS hc h3 hn
    go_enter Tryz.func165, Tryz.ntmps165
    go_wp2_with (first | (go_at_call 164; (with_reducible refine (zarg_any _ _).mono ?_); rintro e w' ⟨rfl, rfl⟩) | (go_at_call 197; (with_reducible refine (zpair_any _ _).mono ?_); rintro e w' ⟨rfl, rfl⟩) | (go_at_call 161; (with_reducible refine (zwords_any _ _).mono ?_); rintro e w' ⟨rfl, rfl⟩))
    go_ret
    exact ⟨_, rfl, by rw [HS.out]; first | exact Strs.mk3 _ _ _ _, by rw [HS.out]; intro h; simp at h, by repeat (first | exact Ext.refl _ | apply Ext.alloc | apply Ext.drew)⟩
  rcases Bool.eq_false_or_eq_true (name.toList == [73, 78, 88]) with t6 | t6
  · have hN : 1 ≤ a.length := by
      have : loadsN name = 1 := by simp only [loadsN, isS_eq]; simp [*]
      omega
    have hS : loadsS name a = [⟨#[73, 78, 67]⟩, (zpairS (a.getD 0 ⟨#[]⟩))] := by simp only [loadsS, isS_eq]; simp [*]
    obtain ⟨b, o, rfl, hlt, hc⟩ := h3 (by omega)
    have c0 := hc 0 (by omega)
    simp only [Nat.add_zero] at c0
    generalize a.getD 0 ⟨#[]⟩ = x0 at *
    have hl0 : (0 : Int) < (a.length : Int) := by omega
    have hl2 : 0 < a.length := by omega
    have hl3 : 0 < a.length := by omega
    have hl1 : (0 : Int) < (a.length : Int) := by omega
    generalize a.length = L at *
    have HS := Lib.hid hS; clear hS hc h3 hn
    go_enter Tryz.func165, Tryz.ntmps165
    go_wp2_with (first | (go_at_call 164; (with_reducible refine (zarg_any _ _).mono ?_); rintro e w' ⟨rfl, rfl⟩) | (go_at_call 197; (with_reducible refine (zpair_any _ _).mono ?_); rintro e w' ⟨rfl, rfl⟩) | (go_at_call 161; (with_reducible refine (zwords_any _ _).mono ?_); rintro e w' ⟨rfl, rfl⟩))
    go_ret
    exact ⟨_, rfl, by rw [HS.out]; first | exact Strs.mk2 _ _ _, by rw [HS.out]; intro h; simp at h, by repeat (first | exact Ext.refl _ | apply Ext.alloc | apply Ext.drew)⟩
  rcases Bool.eq_false_or_eq_true (name.toList == [68, 67, 88]) with t7 | t7
  · have hN : 1 ≤ a.length := by
      have : loadsN name = 1 := by simp only [loadsN, isS_eq]; simp [*]
      omega
    have hS : loadsS name a = [⟨#[68, 69, 67]⟩, (zpairS (a.getD 0 ⟨#[]⟩))] := by simp only [loadsS, isS_eq]; simp [*]
    obtain ⟨b, o, rfl, hlt, hc⟩ := h3 (by omega)
    have c0 := hc 0 (by omega)
    simp only [Nat.add_zero] at c0
    generalize a.getD 0 ⟨#[]⟩ = x0 at *
    have hl0 : (0 : Int) < (a.length : Int) := by omega
    have hl2 : 0 < a.length := by omega
    have hl3 : 0 < a.length := by omega
    have hl1 : (0 : Int) < (a.length : Int) := by omega
    generalize a.length = L at *
    have HS := Lib.hid hS; clear hS hc h3 hn
    go_enter Tryz.func165, Tryz.ntmps165
    go_wp2_with (first | (go_at_call 164; (with_reducible refine (zarg_any _ _).mono ?_); rintro e w' ⟨rfl, rfl⟩) | (go_at_call 197; (with_reducible refine (zpair_any _ _).mono ?_); rintro e w' ⟨rfl, rfl⟩) | (go_at_call 161; (with_reducible refine (zwords_any _ _).mono ?_); rintro e w' ⟨rfl, rfl⟩))
    go_ret
    exact ⟨_, rfl, by rw [HS.out]; first | exact Strs.mk2 _ _ _, by rw [HS.out]; intro h; simp at h, by repeat (first | exact Ext.refl _ | apply Ext.alloc | apply Ext.drew)⟩
  rcases Bool.eq_false_or_eq_true (name.toList == [68, 65, 68]) with t8 | t8
  · have hN : 1 ≤ a.length := by
      have : loadsN name = 1 := by simp only [loadsN, isS_eq]; simp [*]
      omega
    have hS : loadsS name a = [⟨#[65, 68, 68]⟩, ⟨#[72, 76]⟩, (zpairS (a.getD 0 ⟨#[]⟩))] := by simp only [loadsS, isS_eq]; simp [*]
    obtain ⟨b, o, rfl, hlt, hc⟩ := h3 (by omega)
    have c0 := hc 0 (by omega)
    simp only [Nat.add_zero] at c0
    generalize a.getD 0 ⟨#[]⟩ = x0 at *
    have hl0 : (0 : Int) < (a.length : Int) := by omega
    have hl2 : 0 < a.length := by omega
    have hl3 : 0 < a.length := by omega
    have hl1 : (0 : Int) < (a.length : Int) := by omega
    generalize a.length = L at *
    have HS := Lib.hid hS; clear hS hc h3 hn
    go_enter Tryz.func165, Tryz.ntmps165
    go_wp2_with (first | (go_at_call 164; (with_reducible refine (zarg_any _ _).mono ?_); rintro e w' ⟨rfl, rfl⟩) | (go_at_call 197; (with_reducible refine (zpair_any _ _).mono ?_); rintro e w' ⟨rfl, rfl⟩) | (go_at_call 161; (with_reducible refine (zwords_any _ _).mono ?_); rintro e w' ⟨rfl, rfl⟩))
    go_ret
    exact ⟨_, rfl, by rw [HS.out]; first | exact Strs.mk3 _ _ _ _, by rw [HS.out]; intro h; simp at h, by repeat (first | exact Ext.refl _ | apply Ext.alloc | apply Ext.drew)⟩
  rcases Bool.eq_false_or_eq_true (name.toList == [73, 78, 82]) with t9 | t9
  · have hN : 1 ≤ a.length := by
      have : loadsN name = 1 := by simp only [loadsN, isS_eq]; simp [*]
      omega
    have hS : loadsS name a = [⟨#[73, 78, 67]⟩, argS (a.getD 0 ⟨#[]⟩)] := by simp only [loadsS, isS_eq]; simp [*]
    obtain ⟨b, o, rfl, hlt, hc⟩ := h3 (by omega)
    have c0 := hc 0 (by omega)
    simp only [Nat.add_zero] at c0
    generalize a.getD 0 ⟨#[]⟩ = x0 at *
    have hl0 : (0 : Int) < (a.length : Int) := by omega
    have hl2 : 0 < a.length := by omega
    have hl3 : 0 < a.length := by omega
    have hl1 : (0 : Int) < (a.length : Int) := by omega
    generalize a.length = L at *
    have HS := Lib.hid hS; clear hS hc h3 hn
    go_enter Tryz.func165, Tryz.ntmps165
    go_wp2_with (first | (go_at_call 164; (with_reducible refine (zarg_any _ _).mono ?_); rintro e w' ⟨rfl, rfl⟩) | (go_at_call 197; (with_reducible refine (zpair_any _ _).mono ?_); rintro e w' ⟨rfl, rfl⟩) | (go_at_call 161; (with_reducible refine (zwords_any _ _).mono ?_); rintro e w' ⟨rfl, rfl⟩))
    go_ret
    exact ⟨_, rfl, by rw [HS.out]; first | exact Strs.mk2 _ _ _, by rw [HS.out]; intro h; simp at h, by repeat (first | exact Ext.refl _ | apply Ext.alloc | apply Ext.drew)⟩
  rcases Bool.eq_false_or_eq_true (name.toList == [68, 67, 82]) with t10 | t10
  · have hN : 1 ≤ a.length := by
      have : loadsN name = 1 := by simp only [loadsN, isS_eq]; simp [*]
      omega
    have hS : loadsS name a = [⟨#[68, 69, 67]⟩, argS (a.getD 0 ⟨#[]⟩)] := by simp only [loadsS, isS_eq]; simp [*]
    obtain ⟨b, o, rfl, hlt, hc⟩ := h3 (by omega)
    have c0 := hc 0 (by omega)
    simp only [Nat.add_zero] at c0
    generalize a.getD 0 ⟨#[]⟩ = x0 at *
    have hl0 : (0 : Int) < (a.length : Int) := by omega
    have hl2 : 0 < a.length := by omega
    have hl3 : 0 < a.length := by omega
    have hl1 : (0 : Int) < (a.length : Int) := by omega
    generalize a.length = L at *
    have HS := Lib.hid hS; clear hS hc h3 hn
    go_enter Tryz.func165, Tryz.ntmps165
    go_wp2_with (first | (go_at_call 164; (with_reducible refine (zarg_any _ _).mono ?_); rintro e w' ⟨rfl, rfl⟩) | (go_at_call 197; (with_reducible refine (zpair_any _ _).mono ?_); rintro e w' ⟨rfl, rfl⟩) | (go_at_call 161; (with_reducible refine (zwords_any _ _).mono ?_); rintro e w' ⟨rfl, rfl⟩))
    go_ret
    exact ⟨_, rfl, by rw [HS.out]; first | exact Strs.mk2 _ _ _, by rw [HS.out]; intro h; simp at h, by repeat (first | exact Ext.refl _ | apply Ext.alloc | apply Ext.drew)⟩
  rcases Bool.eq_false_or_eq_true (name.toList == [80, 79, 80]) with t11 | t11
  · have hN : 1 ≤ a.length := by
      have : loadsN name = 1 := by simp only [loadsN, isS_eq]; simp [*]
      omega
    have hS : loadsS name a = [name, (zpairS (a.getD 0 ⟨#[]⟩))] := by simp only [loadsS, isS_eq]; simp [*]
    obtain ⟨b, o, rfl, hlt, hc⟩ := h3 (by omega)
    have c0 := hc 0 (by omega)
    simp only [Nat.add_zero] at c0
    generalize a.getD 0 ⟨#[]⟩ = x0 at *
    have hl0 : (0 : Int) < (a.length : Int) := by omega
    have hl2 : 0 < a.length := by omega
    have hl3 : 0 < a.length := by omega
    have hl1 : (0 : Int) < (a.length : Int) := by omega
    generalize a.length = L at *
    have HS := Lib.hid hS; clear hS hc h3 hn
    go_enter Tryz.func165, Tryz.ntmps165
    go_wp2_with (first | (go_at_call 164; (with_reducible refine (zarg_any _ _).mono ?_); rintro e w' ⟨rfl, rfl⟩) | (go_at_call 197; (with_reducible refine (zpair_any _ _).mono ?_); rintro e w' ⟨rfl, rfl⟩) | (go_at_call 161; (with_reducible refine (zwords_any _ _).mono ?_); rintro e w' ⟨rfl, rfl⟩))
    go_ret
    exact ⟨_, rfl, by rw [HS.out]; first | exact Strs.mk2 _ _ _, by rw [HS.out]; intro h; simp at h, by repeat (first | exact Ext.refl _ | apply Ext.alloc | apply Ext.drew)⟩
  rcases Bool.eq_false_or_eq_true (name.toList == [80, 85, 83, 72]) with t12 | t12
  · have hN : 1 ≤ a.length := by
      have : loadsN name = 1 := by simp only [loadsN, isS_eq]; simp [*]
      omega
    have hS : loadsS name a = [name, (zpairS (a.getD 0 ⟨#[]⟩))] := by simp only [loadsS, isS_eq]; simp [*]
    obtain ⟨b, o, rfl, hlt, hc⟩ := h3 (by omega)
    have c0 := hc 0 (by omega)
    simp only [Nat.add_zero] at c0
    generalize a.getD 0 ⟨#[]⟩ = x0 at *
    have hl0 : (0 : Int) < (a.length : Int) := by omega
    have hl2 : 0 < a.length := by omega
    have hl3 : 0 < a.length := by omega
    have hl1 : (0 : Int) < (a.length : Int) := by omega
    generalize a.length = L at *
    have HS := Lib.hid hS; clear hS hc h3 hn
    go_enter Tryz.func165, Tryz.ntmps165
    go_wp2_with (first | (go_at_call 164; (with_reducible refine (zarg_any _ _).mono ?_); rintro e w' ⟨rfl, rfl⟩) | (go_at_call 197; (with_reducible refine (zpair_any _ _).mono ?_); rintro e w' ⟨rfl, rfl⟩) | (go_at_call 161; (with_reducible refine (zwords_any _ _).mono ?_); rintro e w' ⟨rfl, rfl⟩))
    go_ret
    exact ⟨_, rfl, by rw [HS.out]; first | exact Strs.mk2 _ _ _, by rw [HS.out]; intro h; simp at h, by repeat (first | exact Ext.refl _ | apply Ext.alloc | apply Ext.drew)⟩
  have hS : loadsS name a = [] := by simp only [loadsS, isS_eq]; simp [*]
  have HS := Lib.hid hS; clear hS h3 hn
  go_enter Tryz.func165, Tryz.ntmps165
  go_wp2
  go_ret
  exact ⟨_, rfl, by rw [HS.out]; exact Strs.nil _, fun _ => rfl, Ext.refl _⟩

end Go.Proofs.YtnklmehphmidhaaGreatDoor
