/- expr.word, binds, Same. -/
import Derived.Test.YtnklmehphmidhaaGreatDoorRed
namespace Go.Proofs.YtnklmehphmidhaaGreatDoor
open Go.RowKit
set_option maxRecDepth 100000
set_option maxHeartbeats 4000000
set_option linter.unusedSimpArgs false
set_option linter.unusedVariables false

theorem isS_lit (s : ByteArray) (l : List UInt8) : (s.toList == l) = isS s l := (isS_eq s l).symm
theorem inS_false {s : ByteArray} {l : List ByteArray} (h : inS s l = false) {a : ByteArray} (ha : a ∈ l) : (s.toList == a.data.toList) = false := by
  rw [Bool.eq_false_iff]
  intro e
  unfold inS at h
  rw [List.any_eq_false] at h
  exact h a ha (by rw [isS_eq]; exact e)

theorem eword_no (s : ByteArray) (h : inS s opsL = false) (w : World) : Calls Tryz.prog 151 #[.string s] w fun e w' => e = .returned (.bool false) ∧ w = w' := by
  have t1 : (s.toList == [79, 82]) = false := inS_false h (a := ⟨#[79, 82]⟩) (by simp [opsL])
  have t2 : (s.toList == [88, 79, 82]) = false := inS_false h (a := ⟨#[88, 79, 82]⟩) (by simp [opsL])
  have t3 : (s.toList == [65, 78, 68]) = false := inS_false h (a := ⟨#[65, 78, 68]⟩) (by simp [opsL])
  have t4 : (s.toList == [78, 79, 84]) = false := inS_false h (a := ⟨#[78, 79, 84]⟩) (by simp [opsL])
  have t5 : (s.toList == [77, 79, 68]) = false := inS_false h (a := ⟨#[77, 79, 68]⟩) (by simp [opsL])
  have t6 : (s.toList == [83, 72, 76]) = false := inS_false h (a := ⟨#[83, 72, 76]⟩) (by simp [opsL])
  have t7 : (s.toList == [83, 72, 82]) = false := inS_false h (a := ⟨#[83, 72, 82]⟩) (by simp [opsL])
  clear h
  go_enter Tryz.func151, Tryz.ntmps151
  go_wp2
  go_ret
  exact ⟨rfl, rfl⟩

theorem binds_num (w : World) : Calls Tryz.prog 150 #[.string ⟨#[35]⟩] w fun e w' => e = .returned (.tuple #[.int .i64 7, .int .i64 0]) ∧ w = w' := by
  go_enter Tryz.func150, Tryz.ntmps150
  go_wp2
  go_ret2
  exact ⟨rfl, rfl⟩
theorem binds_nam (w : World) : Calls Tryz.prog 150 #[.string ⟨#[110]⟩] w fun e w' => e = .returned (.tuple #[.int .i64 7, .int .i64 0]) ∧ w = w' := by
  go_enter Tryz.func150, Tryz.ntmps150
  go_wp2
  go_ret2
  exact ⟨rfl, rfl⟩

theorem equalFunc_nil (f : Value) (w : World) : Calls Tryz.prog 106 #[.slice none 0 0, .slice none 0 0, f] w fun e w' => e = .returned (.bool true) ∧ w = w' := by
  go_enter Tryz.func106, Tryz.ntmps106
  go_wp2
  go_loop [17] (fun i => i = .int .i64 0) (fun _ => 0)
  case atStart => rfl
  case round =>
    obtain rfl := hrel
    go_wp2
    go_ret
    exact ⟨rfl, rfl⟩

def sameE (o1 o2 : ByteArray) (n1 n2 : Int) (s1 s2 : ByteArray) : Bool := (o1.toList == o2.toList) && (n1 == n2) && (s1.toList == s2.toList)
theorem same_any (o1 o2 : ByteArray) (n1 n2 : Int) (s1 s2 : ByteArray) (w : World) :
    Calls Tryz.prog 57 #[.agg #[.string o1, .int .u16 n1, .string s1, .slice none 0 0], .agg #[.string o2, .int .u16 n2, .string s2, .slice none 0 0]] w (RBool w (sameE o1 o2 n1 n2 s1 s2)) := by
  rcases Bool.eq_false_or_eq_true (o1.toList == o2.toList) with t1 | t1
  · rcases Bool.eq_false_or_eq_true (n1 == n2) with t2 | t2
    · rcases Bool.eq_false_or_eq_true (s1.toList == s2.toList) with t3 | t3
      · have HE : Hid (sameE o1 o2 n1 n2 s1 s2 = true) := Lib.hid (by unfold sameE; rw [t1, t2, t3]; rfl)
        go_enter Tryz.func57, Tryz.ntmps57
        go_wp2_with (go_at_call 106; refine (equalFunc_nil _ _).mono ?_; rintro e w1 ⟨rfl, rfl⟩)
        go_ret
        exact ⟨ret_bool HE.out.symm, by repeat (first | exact Ext.refl _ | apply Ext.alloc)⟩
      · have HE : Hid (sameE o1 o2 n1 n2 s1 s2 = false) := Lib.hid (by unfold sameE; rw [t1, t2, t3]; rfl)
        go_enter Tryz.func57, Tryz.ntmps57
        go_wp2
        go_ret
        exact ⟨ret_bool HE.out.symm, by repeat (first | exact Ext.refl _ | apply Ext.alloc)⟩
    · have HE : Hid (sameE o1 o2 n1 n2 s1 s2 = false) := Lib.hid (by unfold sameE; rw [t1, t2]; rfl)
      go_enter Tryz.func57, Tryz.ntmps57
      go_wp2
      go_ret
      exact ⟨ret_bool HE.out.symm, by repeat (first | exact Ext.refl _ | apply Ext.alloc)⟩
  · have HE : Hid (sameE o1 o2 n1 n2 s1 s2 = false) := Lib.hid (by unfold sameE; rw [t1]; rfl)
    go_enter Tryz.func57, Tryz.ntmps57
    go_wp2
    go_ret
    exact ⟨ret_bool HE.out.symm, by repeat (first | exact Ext.refl _ | apply Ext.alloc)⟩
end Go.Proofs.YtnklmehphmidhaaGreatDoor
