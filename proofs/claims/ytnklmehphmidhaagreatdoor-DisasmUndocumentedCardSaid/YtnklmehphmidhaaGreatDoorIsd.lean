/- isa80, further: sizes, operands, jumps, reading. -/
import Derived.Test.YtnklmehphmidhaaGreatDoorIsc
namespace Go.Proofs.YtnklmehphmidhaaGreatDoor
open Go.RowKit
set_option maxRecDepth 100000
set_option maxHeartbeats 4000000

theorem args_any (op : Int) (h0 : 0 ≤ op) (h1 : op < 256) (w : World) : Calls Tryz.prog 78 #[.int .u8 op] w (RStrs w (wordsS op).tail) := by
  generalize hl : wordsS op = l
  have HL := Lib.hid hl; clear hl
  go_enter Tryz.func78, Tryz.ntmps78
  go_wp2_with fail
  refine (words_any _ h0 h1 _).mono ?_
  rintro e w1 ⟨v, rfl, hs, hx⟩
  rw [HL.out] at hs
  obtain ⟨A, c, rfl, hc1, hc2, h3⟩ := hs.open
  by_cases hp : 0 < l.length
  · obtain ⟨b, o, rfl, hlt, hc⟩ := h3 hp
    clear h3 hc
    have hs2 := fun (h : ¬ c = 1) => hs.tail rfl hp h
    have hs1 := fun (h : c = 1) => tail_one (l := l) (by omega)
    have HS2 := Lib.hid hs2
    have HS1 := Lib.hid hs1
    clear hs hs1 hs2
    generalize hL : l.length = L at *
    clear hL
    go_wp2
    · go_ret
      exact ⟨_, rfl, by rw [HS1.out ‹_›]; rw [show L - 1 = 0 by omega]; exact Strs.empty _ _ _ (by omega), hx⟩
    · go_ret
      exact ⟨_, rfl, HS2.out ‹_›, hx⟩
  · have hz : l.length = 0 := by omega
    have HZ := Lib.hid hz
    clear hs
    rw [hz]; clear hz h3 hc1 hp
    go_wp2
    go_ret
    exact ⟨_, rfl, by rw [show l = [] from List.eq_nil_of_length_eq_zero HZ.out]; exact Strs.nil _, hx⟩

def sizeL (l : List ByteArray) : Int :=
  if l.length = 0 then 0 else if isS (l.getD (l.length - 1) ⟨#[]⟩) [100, 49, 54] = true then 3 else if isS (l.getD (l.length - 1) ⟨#[]⟩) [100, 56] = true then 2 else 1
theorem size_any (op : Int) (h0 : 0 ≤ op) (h1 : op < 256) (w : World) : Calls Tryz.prog 15 #[.int .u8 op] w (RInt w .i64 (sizeL (wordsS op))) := by
  generalize hl : wordsS op = l
  have HL := Lib.hid hl; clear hl
  go_enter Tryz.func15, Tryz.ntmps15
  go_wp2_with fail
  refine (words_any _ h0 h1 _).mono ?_
  rintro e w1 ⟨v, rfl, hs, hx⟩
  rw [HL.out] at hs
  obtain ⟨A, c, rfl, hc1, hc2, h3⟩ := hs.open
  clear hs
  by_cases hp : 0 < l.length
  · obtain ⟨b, o, rfl, hlt, hc⟩ := h3 hp
    have hc0 := hc (l.length - 1) (by omega)
    generalize hn : l.getD (l.length - 1) ⟨#[]⟩ = n at *
    have HN := Lib.hid hn; clear hn hc h3
    generalize hL : l.length = L at *
    have HLL := Lib.hid hL; clear hL
    have hz : ((L : Int) == 0) = false := by simp; omega
    have hz1 : ((L : Int) - 1).toNat = L - 1 := by omega
    go_wp2
    all_goals
      go_ret
      refine ⟨?_, hx⟩
      have h1 := HN.out
      have h2 := HLL.out
      unfold sizeL
      rw [h2, h1, if_neg (by omega), isS_eq, isS_eq]
      simp [*]
  · have hz : l.length = 0 := by omega
    have HZ := Lib.hid hz
    rw [hz]; clear hz h3 hc1 hp
    go_wp2
    go_ret
    exact ⟨by simp [sizeL, HZ.out], hx⟩

def condI (op : Int) : Int := if (op / 64 == 3) = true ∧ (op % 2 == 0) = true ∧ (op % 8 != 6) = true then op / 8 % 8 else -1
theorem condI_any (op : Int) (h0 : 0 ≤ op) (h1 : op < 256) (w : World) : Calls Tryz.prog 123 #[.int .u8 op] w (RInt w .i64 (condI op)) := by
  have hb1 := band1 op h0 h1
  by_cases hA : op / 64 = 3
  all_goals by_cases hB : op % 2 = 0
  all_goals by_cases hC : op % 8 = 6
  all_goals
    have a1 : (op / 64 == 3) = decide (op / 64 = 3) := rfl
    have a2 : (op % 2 == 0) = decide (op % 2 = 0) := rfl
    have a3 : (op % 8 != 6) = !decide (op % 8 = 6) := rfl
    simp only [hA, hB, hC, decide_true, decide_false, Bool.not_true, Bool.not_false] at a1 a2 a3
    have A := Lib.hid (⟨hA, hB, hC⟩ : _ ∧ _ ∧ _)
    clear hA hB hC
    go_enter Tryz.func123, Tryz.ntmps123
    go_wp2
    all_goals go_ret
    all_goals exact ⟨by simp [condI, *], Ext.refl _⟩
end Go.Proofs.YtnklmehphmidhaaGreatDoor
