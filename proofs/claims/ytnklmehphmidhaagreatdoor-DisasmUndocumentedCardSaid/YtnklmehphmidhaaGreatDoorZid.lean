/- zilog: names and operands. -/
import Derived.Test.YtnklmehphmidhaaGreatDoorZic
namespace Go.Proofs.YtnklmehphmidhaaGreatDoor
open Go.RowKit
set_option maxRecDepth 100000
set_option maxHeartbeats 4000000
set_option linter.unusedSimpArgs false

theorem zname_any (op : Int) (h0 : 0 ≤ op) (h1 : op < 256) (w : World) (hT : Tab w) : Calls Tryz.prog 79 #[.int .u8 op] w (RStr w (nameOf (formS op))) := by
  generalize hl : formS op = l
  have HL := Lib.hid hl; clear hl
  go_enter Tryz.func79, Tryz.ntmps79
  go_wp2_with fail
  refine (zform_any _ h0 h1 _ hT).mono ?_
  rintro e w1 ⟨v, rfl, hs, hx⟩
  rw [HL.out] at hs
  obtain ⟨A, c, rfl, hc1, hc2, h3⟩ := hs.open
  clear hs
  by_cases hp : 0 < l.length
  · obtain ⟨b, o, rfl, hlt, hc⟩ := h3 hp
    have hc0 := hc 0 hp
    simp only [Nat.add_zero] at hc0
    generalize hn : l.getD 0 ⟨#[]⟩ = n at *
    have HN := Lib.hid hn; clear hn hc h3
    generalize l.length = L at *
    go_wp2
    go_ret
    exact ⟨by rw [← HN.out]; rfl, hx⟩
  · have hz : l.length = 0 := by omega
    have HZ := Lib.hid hz
    rw [hz]; clear hz h3 hc1 hp
    go_wp2
    go_ret
    exact ⟨by rw [show l = [] from List.eq_nil_of_length_eq_zero HZ.out]; rfl, hx⟩
theorem zargs_any (op : Int) (h0 : 0 ≤ op) (h1 : op < 256) (w : World) (hT : Tab w) : Calls Tryz.prog 80 #[.int .u8 op] w (RStrs w (formS op).tail) := by
  generalize hl : formS op = l
  have HL := Lib.hid hl; clear hl
  go_enter Tryz.func80, Tryz.ntmps80
  go_wp2_with fail
  refine (zform_any _ h0 h1 _ hT).mono ?_
  rintro e w1 ⟨v, rfl, hs, hx⟩
  rw [HL.out] at hs
  obtain ⟨A, c, rfl, hc1, hc2, h3⟩ := hs.open
  by_cases hp : 0 < l.length
  · obtain ⟨b, o, rfl, hlt, hc⟩ := h3 hp
    clear h3 hc
    have hs2 := fun (h : ¬ c = 1) => hs.tail rfl hp h
    have hs1 := fun (h : c = 1) => tail_one (l := l) (by omega)
    have HS2 := Lib.hid hs2
    have HS1 := Lib.hid hs1
    clear hs hs1 hs2
    generalize hL : l.length = L at *
    clear hL
    go_wp2
    · go_ret
      exact ⟨_, rfl, by rw [HS1.out ‹_›]; rw [show L - 1 = 0 by omega]; exact Strs.empty _ _ _ (by omega), hx⟩
    · go_ret
      exact ⟨_, rfl, HS2.out ‹_›, hx⟩
  · have hz : l.length = 0 := by omega
    have HZ := Lib.hid hz
    clear hs
    rw [hz]; clear hz h3 hc1 hp
    go_wp2
    go_ret
    exact ⟨_, rfl, by rw [show l = [] from List.eq_nil_of_length_eq_zero HZ.out]; exact Strs.nil _, hx⟩

end Go.Proofs.YtnklmehphmidhaaGreatDoor
