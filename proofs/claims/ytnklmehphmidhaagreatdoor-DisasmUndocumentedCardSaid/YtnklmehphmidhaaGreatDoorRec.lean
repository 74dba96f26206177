/- line: one, sets, great, Plain. -/
import Derived.Test.YtnklmehphmidhaaGreatDoorReb
import Derived.Test.YtnklmehphmidhaaGreatDoorNub
namespace Go.Proofs.YtnklmehphmidhaaGreatDoor
open Go.RowKit
set_option maxRecDepth 100000
set_option maxHeartbeats 4000000
set_option linter.unusedSimpArgs false
set_option linter.unusedVariables false

theorem contains105_any (l : List ByteArray) (v : Value) (s : ByteArray) (w : World) (hs : Strs w v l) : Calls Tryz.prog 105 #[v, .string s] w (RBool w (inS s l)) := by
  obtain ⟨A, c, rfl, hc, hc2, hcell⟩ := hs.open
  have key : ∀ l : List ByteArray, Lib.containsS l s = inS s l := by
    intro l
    rw [Bool.eq_iff_iff, inS_iff]
    exact Lib.containsS_iff l s
  rcases Nat.eq_zero_or_pos l.length with h | h
  · have : l = [] := List.eq_nil_of_length_eq_zero h
    subst this
    exact (Tryz.slices_Contains_string_empty A c s w).mono fun e w' ⟨he, hw⟩ => ⟨he, hw ▸ Ext.refl _⟩
  · obtain ⟨b, o, rfl, hb, hcell⟩ := hcell h
    refine (Tryz.slices_Contains_string b o l.length c l s w (Nat.le_refl _) (by omega) (fun j hj => hcell j hj)).mono fun e w' ⟨he, hw⟩ => ⟨?_, hw ▸ Ext.refl _⟩
    rw [he, List.take_length, key]

theorem one_any (l : List ByteArray) (v : Value) (s : ByteArray) (w : World) (hs : Strs w v l) : Calls Tryz.prog 55 #[.string s, v] w (RBool w (inS s l)) := by
  obtain ⟨A, c, rfl, _⟩ := hs.open
  have HS := Lib.hid hs; clear hs
  go_enter Tryz.func55, Tryz.ntmps55
  go_wp2_with (go_at_call 105; refine (contains105_any l _ s _ HS.out).mono ?_; rintro e w' ⟨rfl, hx⟩)
  go_ret
  exact ⟨rfl, ‹_›⟩

def setsL : List ByteArray := [⟨#[69, 81, 85]⟩, ⟨#[83, 69, 84]⟩]
theorem sets_any (s : ByteArray) (w : World) : Calls Tryz.prog 34 #[.string s] w (RBool w (inS s setsL)) := by
  have hs := Strs.mk2 w ⟨#[69, 81, 85]⟩ ⟨#[83, 69, 84]⟩
  have HS := Lib.hid hs; clear hs
  go_enter Tryz.func34, Tryz.ntmps34
  go_wp2_with (go_at_call 55; refine (one_any setsL _ s _ HS.out).mono ?_; rintro e w' ⟨rfl, hx⟩)
  go_ret
  exact ⟨rfl, ((Ext.refl _).alloc _).trans ‹_›⟩

def greatB (s : ByteArray) : Bool := nameB s && isS (upperS s) s.data.toList
theorem nameB_size {s : ByteArray} (h : nameB s = true) : s.size ≤ 16 := by
  unfold nameB at h
  simp only [Bool.and_eq_true, decide_eq_true_eq] at h
  exact h.1.2
theorem great_any (s : ByteArray) (w : World) : Calls Tryz.prog 33 #[.string s] w (RBool w (greatB s)) := by
  rcases Bool.eq_false_or_eq_true (nameB s) with hn | hn
  · have hsz := nameB_size hn
    have HG : Hid (greatB s = ((upperS s).toList == s.toList)) := Lib.hid (by unfold greatB; rw [hn, isS_eq, ← ByteArray.toList_eq]; rfl)
    have HN := Lib.hid hn; clear hn
    go_enter Tryz.func33, Tryz.ntmps33
    go_wp2_with (first
      | (go_at_call 53; refine (name53_any _ _).mono ?_; rw [HN.out]; rintro e w' ⟨rfl, rfl⟩)
      | (go_at_call 54; refine (upper_any _ (by omega) _).mono ?_; rintro e w' ⟨rfl, hx⟩))
    go_ret
    exact ⟨ret_bool HG.out.symm, ‹_›⟩
  · have HG : Hid (greatB s = false) := Lib.hid (by unfold greatB; rw [hn]; rfl)
    have HN := Lib.hid hn; clear hn
    go_enter Tryz.func33, Tryz.ntmps33
    go_wp2_with (go_at_call 53; refine (name53_any _ _).mono ?_; rw [HN.out]; rintro e w' ⟨rfl, rfl⟩)
    go_ret
    exact ⟨ret_bool HG.out.symm, Ext.refl _⟩

def plainB (d : Int) (s : ByteArray) : Bool := greatB s && !inS s (resL d) && !inS s setsL
theorem plain32_any (d : Int) (s : ByteArray) (w : World) (hT : Tab w) : Calls Tryz.prog 32 #[.int .i64 d, .string s] w (RBool w (plainB d s)) := by
  have HT := Lib.hid hT; clear hT
  rcases Bool.eq_false_or_eq_true (greatB s) with h1 | h1
  · rcases Bool.eq_false_or_eq_true (inS s (resL d)) with h2 | h2
    · have HP : Hid (plainB d s = false) := Lib.hid (by unfold plainB; rw [h1, h2]; rfl)
      have H1 := Lib.hid h1; have H2 := Lib.hid h2; clear h1 h2
      go_enter Tryz.func32, Tryz.ntmps32
      go_wp2_with (first
        | (go_at_call 33; refine (great_any _ _).mono ?_; rw [H1.out]; rintro e w1 ⟨rfl, hx1⟩)
        | (go_at_call 52; refine (reserved_any _ _ _ (HT.out.ext hx1)).mono ?_; rw [H2.out]; rintro e w2 ⟨rfl, hx2⟩))
      go_ret
      exact ⟨ret_bool HP.out.symm, (‹Ext w _›).trans ‹_›⟩
    · have HP : Hid (plainB d s = !inS s setsL) := Lib.hid (by unfold plainB; rw [h1, h2]; rfl)
      have H1 := Lib.hid h1; have H2 := Lib.hid h2; clear h1 h2
      go_enter Tryz.func32, Tryz.ntmps32
      go_wp2_with (first
        | (go_at_call 33; refine (great_any _ _).mono ?_; rw [H1.out]; rintro e w1 ⟨rfl, hx1⟩)
        | (go_at_call 52; refine (reserved_any _ _ _ (HT.out.ext hx1)).mono ?_; rw [H2.out]; rintro e w2 ⟨rfl, hx2⟩)
        | (go_at_call 34; refine (sets_any _ _).mono ?_; rintro e w3 ⟨rfl, hx3⟩))
      go_ret
      exact ⟨ret_bool HP.out.symm, ((‹Ext w _›).trans hx2).trans hx3⟩
  · have HP : Hid (plainB d s = false) := Lib.hid (by unfold plainB; rw [h1]; rfl)
    have H1 := Lib.hid h1; clear h1
    go_enter Tryz.func32, Tryz.ntmps32
    go_wp2_with (go_at_call 33; refine (great_any _ _).mono ?_; rw [H1.out]; rintro e w1 ⟨rfl, hx1⟩)
    go_ret
    exact ⟨ret_bool HP.out.symm, ‹_›⟩
end Go.Proofs.YtnklmehphmidhaaGreatDoor
