/- number: Name, Upper. -/
import Derived.Test.YtnklmehphmidhaaGreatDoorBase3
import Derived.Lib.ConvBytes
namespace Go.Proofs.YtnklmehphmidhaaGreatDoor
open Go.RowKit
set_option maxRecDepth 100000
set_option maxHeartbeats 4000000
set_option linter.unusedSimpArgs false
set_option linter.unusedVariables false

def begB (x : Int) : Bool := decide (97 ≤ bits .or .u8 x 32 ∧ bits .or .u8 x 32 ≤ 122)
theorem u8_or_range (x : Int) (h0 : 0 ≤ x) (h1 : x ≤ 255) : 0 ≤ bits .or .u8 x 32 ∧ bits .or .u8 x 32 ≤ 255 := by
  obtain ⟨n, rfl⟩ := Int.eq_ofNat_of_zero_le h0
  have key : ∀ i : Fin 256, 0 ≤ bits .or .u8 (i.val : Nat) 32 ∧ bits .or .u8 (i.val : Nat) 32 ≤ 255 := by decide +kernel
  exact key ⟨n, by omega⟩
theorem ret_bool {a b : Bool} (h : a = b) : Ending.returned (.bool a) = .returned (.bool b) := by rw [h]
theorem begins_any (x : Int) (h0 : 0 ≤ x) (h1 : x ≤ 255) (w : World) : Calls Tryz.prog 104 #[.int .u8 x] w fun e w' => e = .returned (.bool (begB x)) ∧ w = w' := by
  have hr := u8_or_range x h0 h1
  have hB := Lib.hid (show begB x = decide (97 ≤ bits .or .u8 x 32 ∧ bits .or .u8 x 32 ≤ 122) from rfl)
  go_enter Tryz.func104, Tryz.ntmps104
  go_wp2
  all_goals
    go_ret
    exact ⟨ret_bool (by rw [hB.out]; first | (simp [*]; done) | (simp [*]; omega)), rfl⟩

/-- A string's byte. -/
def byteI (s : ByteArray) (i : Nat) : Int := ((s.data.toList.getD i 0).toNat : Int)
theorem byteI_at (s : ByteArray) (i : Nat) (h : i < s.size) : ((s[i]'h).toNat : Int) = byteI s i := by
  unfold byteI
  congr 2
  rw [List.getD_eq_getElem?_getD, List.getElem?_eq_getElem (by simpa using h)]
  rfl
theorem byteI_range (s : ByteArray) (i : Nat) : 0 ≤ byteI s i ∧ byteI s i ≤ 255 := by
  unfold byteI
  have := (s.data.toList.getD i 0).toNat_lt
  omega
def okC (z : Bool) (x : Int) : Bool := (begB x && decide (x < 128)) || x == 63 || x == 64 || x == 95 || (!z && decide (48 ≤ x) && decide (x ≤ 57))
def okAt (s : ByteArray) (i : Nat) : Bool := okC (i == 0) (byteI s i)
def nameB (s : ByteArray) : Bool := decide (s.size ≠ 0) && decide (s.size ≤ 16) && (List.range s.size).all (okAt s)
theorem nameB_false {s : ByteArray} {k : Nat} (hk : k < s.size) (h : okAt s k = false) : nameB s = false := by
  unfold nameB
  rw [Bool.and_eq_false_iff]
  refine .inr ?_
  rw [List.all_eq_false]
  exact ⟨k, List.mem_range.2 hk, by simp [h]⟩
theorem nameB_true {s : ByteArray} (h0 : s.size ≠ 0) (h16 : s.size ≤ 16) (h : ∀ i, i < s.size → okAt s i = true) : nameB s = true := by
  unfold nameB
  simp only [Bool.and_eq_true, decide_eq_true_eq, List.all_eq_true, List.mem_range]
  exact ⟨⟨h0, h16⟩, h⟩

theorem name53_any (s : ByteArray) (w : World) : Calls Tryz.prog 53 #[.string s] w fun e w' => e = .returned (.bool (nameB s)) ∧ w = w' := by
  by_cases h0 : s.size = 0
  · have he : s.toList = [] := by
      rw [ByteArray.toList_eq]
      exact List.eq_nil_of_length_eq_zero (by rw [Array.length_toList]; exact h0)
    have HN : Hid (nameB s = false) := Lib.hid (by unfold nameB; rw [h0]; rfl)
    clear h0
    go_enter Tryz.func53, Tryz.ntmps53
    go_wp2
    go_ret
    exact ⟨ret_bool HN.out.symm, rfl⟩
  have he : s.toList.isEmpty = false := by
    rw [ByteArray.toList_eq]
    rw [Bool.eq_false_iff]
    intro h
    rw [List.isEmpty_iff] at h
    have := congrArg List.length h
    rw [Array.length_toList] at this
    exact h0 this
  by_cases h16 : (16 : Int) < s.size
  · have hn : nameB s = false := by
      unfold nameB
      simp; omega
    rw [hn]
    clear hn h0
    go_enter Tryz.func53, Tryz.ntmps53
    go_wp2
    go_ret
    exact ⟨rfl, rfl⟩
  have hL16 : (s.size : Int) ≤ 16 := by omega
  have hL0 : 0 < s.size := by omega
  clear h0 h16
  go_enter Tryz.func53, Tryz.ntmps53
  go_wp2
  go_loop [14] (fun i => ∃ k : Nat, k ≤ s.size ∧ i = .int .i64 k ∧ Hid (∀ j, j < k → okAt s j = true)) (fun i => s.size - (intOf i).toNat)
  case atStart => exact ⟨0, by omega, rfl, Lib.hid (by intro j hj; omega)⟩
  case round =>
    obtain ⟨k, hk, rfl, HK⟩ := hrel
    by_cases hlt : k < s.size
    · obtain ⟨c, hc⟩ : ∃ c, ((s[k]'hlt).toNat : Int) = c := ⟨_, rfl⟩
      have hcr : 0 ≤ c ∧ c ≤ 255 := by have := (s[k]'hlt).toNat_lt; omega
      have HC : Hid (byteI s k = c) := Lib.hid (by rw [← hc, byteI_at])
      have hc0 := hcr.1
      have hc1 := hcr.2
      rcases Bool.eq_false_or_eq_true (begB c) with hbg | hbg
      all_goals
        have HBG := Lib.hid hbg
        go_wp2_with (go_at_call 104; refine (begins_any _ hc0 hc1 _).mono ?_; rw [HBG.out]; rintro e w' ⟨rfl, rfl⟩)
      all_goals first
        | (go_ret
           refine ⟨ret_bool (Eq.symm (nameB_false hlt ?_)), rfl⟩
           clear hc HK
           rw [okAt, HC.out, okC, HBG.out, Bool.eq_false_iff]
           intro hcon
           simp only [true_and, false_and, false_or, Bool.false_eq_true, beq_iff_eq, beq_eq_false_iff_ne, Bool.or_eq_true, Bool.and_eq_true, decide_eq_true_eq, Bool.not_eq_true'] at *
           omega)
        | (go_round
           case rel =>
             have hok : okAt s k = true := by
               clear hc HK
               rw [okAt, HC.out, okC, HBG.out]
               simp only [true_and, false_and, false_or, Bool.false_eq_true, beq_iff_eq, beq_eq_false_iff_ne, Bool.or_eq_true, Bool.and_eq_true, decide_eq_true_eq, Bool.not_eq_true'] at *
               omega
             exact ⟨k + 1, by omega, by go_num, Lib.hid (fun j hj => by
               rcases Nat.lt_or_ge j k with h | h
               · exact HK.out j h
               · obtain rfl : j = k := by omega
                 exact hok)⟩
           case measure => simp [intOf]; omega)
    · obtain rfl : k = s.size := by omega
      have HN : Hid (nameB s = true) := Lib.hid (nameB_true (by omega) (by omega) HK.out)
      go_wp2
      go_ret
      exact ⟨ret_bool HN.out.symm, rfl⟩
end Go.Proofs.YtnklmehphmidhaaGreatDoor
