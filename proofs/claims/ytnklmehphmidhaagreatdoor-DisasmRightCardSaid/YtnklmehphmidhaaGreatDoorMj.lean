/- line.word; expr.word, binds, Same. -/
import Derived.Test.YtnklmehphmidhaaGreatDoorMi
namespace Go.Proofs.YtnklmehphmidhaaGreatDoor
section
open Go.RowKit
set_option maxRecDepth 100000
set_option maxHeartbeats 1000000
set_option linter.unusedSimpArgs false
set_option linter.unusedVariables false

def zspL : List ByteArray := [⟨#[40, 66, 67, 41]⟩, ⟨#[40, 68, 69, 41]⟩, ⟨#[40, 72, 76, 41]⟩, ⟨#[40, 83, 80, 41]⟩]
def espL : List ByteArray := [⟨#[91, 66, 88, 93]⟩, ⟨#[91, 83, 73, 93]⟩]
def opsL : List ByteArray := [⟨#[79, 82]⟩, ⟨#[88, 79, 82]⟩, ⟨#[65, 78, 68]⟩, ⟨#[78, 79, 84]⟩, ⟨#[77, 79, 68]⟩, ⟨#[83, 72, 76]⟩, ⟨#[83, 72, 82]⟩]
def wordB (d : Int) (s : ByteArray) : Bool := (d == 1 && inS s zspL) || (d == 2 && inS s espL) || (inS s (resL d) && !inS s opsL)

theorem strs_mk7 (w : World) (a b c d e f g : ByteArray) : Strs (w.alloc (.cells #[.string a, .string b, .string c, .string d, .string e, .string f, .string g] 9)) (.slice (some ⟨w.heap.size, 0, none⟩) 7 7) [a, b, c, d, e, f, g] := Strs.alloc w [a, b, c, d, e, f, g] (by simp) 9 _ rfl 7 rfl

theorem word58_any (d : Int) (s : ByteArray) (w : World) (hT : Tab w) : Calls Tryz.prog 58 #[.int .i64 d, .string s] w (RBool w (wordB d s)) := by
  have HT := Lib.hid hT; clear hT
  have H4 := Lib.hid (fun W : World => (Strs.mk4 W ⟨#[40, 66, 67, 41]⟩ ⟨#[40, 68, 69, 41]⟩ ⟨#[40, 72, 76, 41]⟩ ⟨#[40, 83, 80, 41]⟩ : Strs _ _ zspL))
  have H2 := Lib.hid (fun W : World => (Strs.mk2 W ⟨#[91, 66, 88, 93]⟩ ⟨#[91, 83, 73, 93]⟩ : Strs _ _ espL))
  have H7 := Lib.hid (fun W : World => (strs_mk7 W ⟨#[79, 82]⟩ ⟨#[88, 79, 82]⟩ ⟨#[65, 78, 68]⟩ ⟨#[78, 79, 84]⟩ ⟨#[77, 79, 68]⟩ ⟨#[83, 72, 76]⟩ ⟨#[83, 72, 82]⟩ : Strs _ _ opsL))
  rcases Bool.eq_false_or_eq_true (d == 1) with d1 | d1
  · obtain rfl : d = 1 := by simpa using d1
    rcases Bool.eq_false_or_eq_true (inS s zspL) with h1 | h1
    · have HW : Hid (wordB 1 s = true) := Lib.hid (by unfold wordB; rw [h1]; rfl)
      have H1 := Lib.hid h1; clear h1
      go_enter Tryz.func58, Tryz.ntmps58
      go_wp2_with (go_at_call 55; refine (one_any zspL _ s _ (H4.out _)).mono ?_; clear H4; rw [H1.out]; rintro e w1 ⟨rfl, hx1⟩)
      go_ret
      exact ⟨ret_bool HW.out.symm, ((Ext.refl _).alloc _).trans ‹_›⟩
    rcases Bool.eq_false_or_eq_true (inS s (resL 1)) with h2 | h2
    · have HW : Hid (wordB 1 s = !inS s opsL) := Lib.hid (by unfold wordB; rw [h1, h2]; rfl)
      have H1 := Lib.hid h1; have H3 := Lib.hid h2; clear h1 h2
      go_enter Tryz.func58, Tryz.ntmps58
      go_wp2_with (first
        | (go_at_call 55; refine (one_any zspL _ s _ (H4.out _)).mono ?_; clear H4; rw [H1.out]; rintro e w1 ⟨rfl, hx1⟩)
        | (go_at_call 55; refine (one_any opsL _ s _ (H7.out _)).mono ?_; rintro e w3 ⟨rfl, hx3⟩)
        | (go_at_call 52; refine (reserved_any _ _ _ (HT.out.ext (((Ext.refl _).alloc _).trans hx1))).mono ?_; rw [H3.out]; rintro e w2 ⟨rfl, hx2⟩))
      go_ret
      exact ⟨ret_bool HW.out.symm, ((((Ext.refl _).alloc _).trans hx1).trans hx2 |>.alloc _).trans hx3⟩
    · have HW : Hid (wordB 1 s = false) := Lib.hid (by unfold wordB; rw [h1, h2]; rfl)
      have H1 := Lib.hid h1; have H3 := Lib.hid h2; clear h1 h2
      go_enter Tryz.func58, Tryz.ntmps58
      go_wp2_with (first
        | (go_at_call 55; refine (one_any zspL _ s _ (H4.out _)).mono ?_; clear H4; rw [H1.out]; rintro e w1 ⟨rfl, hx1⟩)
        | (go_at_call 52; refine (reserved_any _ _ _ (HT.out.ext (((Ext.refl _).alloc _).trans hx1))).mono ?_; rw [H3.out]; rintro e w2 ⟨rfl, hx2⟩))
      go_ret
      exact ⟨ret_bool HW.out.symm, (((Ext.refl _).alloc _).trans hx1).trans hx2⟩
  rcases Bool.eq_false_or_eq_true (d == 2) with d2 | d2
  · obtain rfl : d = 2 := by simpa using d2
    rcases Bool.eq_false_or_eq_true (inS s espL) with h1 | h1
    · have HW : Hid (wordB 2 s = true) := Lib.hid (by unfold wordB; rw [h1]; rfl)
      have H1 := Lib.hid h1; clear h1
      go_enter Tryz.func58, Tryz.ntmps58
      go_wp2_with (go_at_call 55; refine (one_any espL _ s _ (H2.out _)).mono ?_; clear H2; rw [H1.out]; rintro e w1 ⟨rfl, hx1⟩)
      go_ret
      exact ⟨ret_bool HW.out.symm, ((Ext.refl _).alloc _).trans ‹_›⟩
    rcases Bool.eq_false_or_eq_true (inS s (resL 2)) with h2 | h2
    · have HW : Hid (wordB 2 s = !inS s opsL) := Lib.hid (by unfold wordB; rw [h1, h2]; rfl)
      have H1 := Lib.hid h1; have H3 := Lib.hid h2; clear h1 h2
      go_enter Tryz.func58, Tryz.ntmps58
      go_wp2_with (first
        | (go_at_call 55; refine (one_any espL _ s _ (H2.out _)).mono ?_; clear H2; rw [H1.out]; rintro e w1 ⟨rfl, hx1⟩)
        | (go_at_call 55; refine (one_any opsL _ s _ (H7.out _)).mono ?_; rintro e w3 ⟨rfl, hx3⟩)
        | (go_at_call 52; refine (reserved_any _ _ _ (HT.out.ext (((Ext.refl _).alloc _).trans hx1))).mono ?_; rw [H3.out]; rintro e w2 ⟨rfl, hx2⟩))
      go_ret
      exact ⟨ret_bool HW.out.symm, ((((Ext.refl _).alloc _).trans hx1).trans hx2 |>.alloc _).trans hx3⟩
    · have HW : Hid (wordB 2 s = false) := Lib.hid (by unfold wordB; rw [h1, h2]; rfl)
      have H1 := Lib.hid h1; have H3 := Lib.hid h2; clear h1 h2
      go_enter Tryz.func58, Tryz.ntmps58
      go_wp2_with (first
        | (go_at_call 55; refine (one_any espL _ s _ (H2.out _)).mono ?_; clear H2; rw [H1.out]; rintro e w1 ⟨rfl, hx1⟩)
        | (go_at_call 52; refine (reserved_any _ _ _ (HT.out.ext (((Ext.refl _).alloc _).trans hx1))).mono ?_; rw [H3.out]; rintro e w2 ⟨rfl, hx2⟩))
      go_ret
      exact ⟨ret_bool HW.out.symm, (((Ext.refl _).alloc _).trans hx1).trans hx2⟩
  rcases Bool.eq_false_or_eq_true (inS s (resL d)) with h2 | h2
  · have HW : Hid (wordB d s = !inS s opsL) := Lib.hid (by unfold wordB; rw [d1, d2, h2]; rfl)
    have H3 := Lib.hid h2; clear h2
    go_enter Tryz.func58, Tryz.ntmps58
    go_wp2_with (first
      | (go_at_call 55; refine (one_any opsL _ s _ (H7.out _)).mono ?_; rintro e w3 ⟨rfl, hx3⟩)
      | (go_at_call 52; refine (reserved_any _ _ _ HT.out).mono ?_; rw [H3.out]; rintro e w2 ⟨rfl, hx2⟩))
    go_ret
    exact ⟨ret_bool HW.out.symm, (hx2.alloc _).trans hx3⟩
  · have HW : Hid (wordB d s = false) := Lib.hid (by unfold wordB; rw [d1, d2, h2]; rfl)
    have H3 := Lib.hid h2; clear h2
    go_enter Tryz.func58, Tryz.ntmps58
    go_wp2_with (go_at_call 52; refine (reserved_any _ _ _ HT.out).mono ?_; rw [H3.out]; rintro e w2 ⟨rfl, hx2⟩)
    go_ret
    exact ⟨ret_bool HW.out.symm, hx2⟩
end

section
open Go.RowKit
set_option maxRecDepth 100000
set_option maxHeartbeats 4000000
set_option linter.unusedSimpArgs false
set_option linter.unusedVariables false

theorem isS_lit (s : ByteArray) (l : List UInt8) : (s.toList == l) = isS s l := (isS_eq s l).symm
theorem inS_false {s : ByteArray} {l : List ByteArray} (h : inS s l = false) {a : ByteArray} (ha : a ∈ l) : (s.toList == a.data.toList) = false := by
  rw [Bool.eq_false_iff]
  intro e
  unfold inS at h
  rw [List.any_eq_false] at h
  exact h a ha (by rw [isS_eq]; exact e)

theorem eword_no (s : ByteArray) (h : inS s opsL = false) (w : World) : Calls Tryz.prog 151 #[.string s] w fun e w' => e = .returned (.bool false) ∧ w = w' := by
  have t1 : (s.toList == [79, 82]) = false := inS_false h (a := ⟨#[79, 82]⟩) (by simp [opsL])
  have t2 : (s.toList == [88, 79, 82]) = false := inS_false h (a := ⟨#[88, 79, 82]⟩) (by simp [opsL])
  have t3 : (s.toList == [65, 78, 68]) = false := inS_false h (a := ⟨#[65, 78, 68]⟩) (by simp [opsL])
  have t4 : (s.toList == [78, 79, 84]) = false := inS_false h (a := ⟨#[78, 79, 84]⟩) (by simp [opsL])
  have t5 : (s.toList == [77, 79, 68]) = false := inS_false h (a := ⟨#[77, 79, 68]⟩) (by simp [opsL])
  have t6 : (s.toList == [83, 72, 76]) = false := inS_false h (a := ⟨#[83, 72, 76]⟩) (by simp [opsL])
  have t7 : (s.toList == [83, 72, 82]) = false := inS_false h (a := ⟨#[83, 72, 82]⟩) (by simp [opsL])
  clear h
  go_enter Tryz.func151, Tryz.ntmps151
  go_wp2
  go_ret
  exact ⟨rfl, rfl⟩

theorem binds_num (w : World) : Calls Tryz.prog 150 #[.string ⟨#[35]⟩] w fun e w' => e = .returned (.tuple #[.int .i64 7, .int .i64 0]) ∧ w = w' := by
  go_enter Tryz.func150, Tryz.ntmps150
  go_wp2
  go_ret2
  exact ⟨rfl, rfl⟩
theorem binds_nam (w : World) : Calls Tryz.prog 150 #[.string ⟨#[110]⟩] w fun e w' => e = .returned (.tuple #[.int .i64 7, .int .i64 0]) ∧ w = w' := by
  go_enter Tryz.func150, Tryz.ntmps150
  go_wp2
  go_ret2
  exact ⟨rfl, rfl⟩

theorem equalFunc_nil (f : Value) (w : World) : Calls Tryz.prog 106 #[.slice none 0 0, .slice none 0 0, f] w fun e w' => e = .returned (.bool true) ∧ w = w' := by
  go_enter Tryz.func106, Tryz.ntmps106
  go_wp2
  go_loop [17] (fun i => i = .int .i64 0) (fun _ => 0)
  case atStart => rfl
  case round =>
    obtain rfl := hrel
    go_wp2
    go_ret
    exact ⟨rfl, rfl⟩

def sameE (o1 o2 : ByteArray) (n1 n2 : Int) (s1 s2 : ByteArray) : Bool := (o1.toList == o2.toList) && (n1 == n2) && (s1.toList == s2.toList)
theorem same_any (o1 o2 : ByteArray) (n1 n2 : Int) (s1 s2 : ByteArray) (w : World) :
    Calls Tryz.prog 57 #[.agg #[.string o1, .int .u16 n1, .string s1, .slice none 0 0], .agg #[.string o2, .int .u16 n2, .string s2, .slice none 0 0]] w (RBool w (sameE o1 o2 n1 n2 s1 s2)) := by
  rcases Bool.eq_false_or_eq_true (o1.toList == o2.toList) with t1 | t1
  · rcases Bool.eq_false_or_eq_true (n1 == n2) with t2 | t2
    · rcases Bool.eq_false_or_eq_true (s1.toList == s2.toList) with t3 | t3
      · have HE : Hid (sameE o1 o2 n1 n2 s1 s2 = true) := Lib.hid (by unfold sameE; rw [t1, t2, t3]; rfl)
        go_enter Tryz.func57, Tryz.ntmps57
        go_wp2_with (go_at_call 106; refine (equalFunc_nil _ _).mono ?_; rintro e w1 ⟨rfl, rfl⟩)
        go_ret
        exact ⟨ret_bool HE.out.symm, by repeat (first | exact Ext.refl _ | apply Ext.alloc)⟩
      · have HE : Hid (sameE o1 o2 n1 n2 s1 s2 = false) := Lib.hid (by unfold sameE; rw [t1, t2, t3]; rfl)
        go_enter Tryz.func57, Tryz.ntmps57
        go_wp2
        go_ret
        exact ⟨ret_bool HE.out.symm, by repeat (first | exact Ext.refl _ | apply Ext.alloc)⟩
    · have HE : Hid (sameE o1 o2 n1 n2 s1 s2 = false) := Lib.hid (by unfold sameE; rw [t1, t2]; rfl)
      go_enter Tryz.func57, Tryz.ntmps57
      go_wp2
      go_ret
      exact ⟨ret_bool HE.out.symm, by repeat (first | exact Ext.refl _ | apply Ext.alloc)⟩
  · have HE : Hid (sameE o1 o2 n1 n2 s1 s2 = false) := Lib.hid (by unfold sameE; rw [t1]; rfl)
    go_enter Tryz.func57, Tryz.ntmps57
    go_wp2
    go_ret
    exact ⟨ret_bool HE.out.symm, by repeat (first | exact Ext.refl _ | apply Ext.alloc)⟩
end
end Go.Proofs.YtnklmehphmidhaaGreatDoor
