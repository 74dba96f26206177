/- zilog.Reserved and what it stands on. -/
import Derived.Test.YtnklmehphmidhaaGreatDoorDim
namespace Go.Proofs.YtnklmehphmidhaaGreatDoor
open Go.RowKit
set_option maxRecDepth 100000
set_option maxHeartbeats 4000000
set_option linter.unusedSimpArgs false
set_option linter.unusedVariables false

theorem toList_inj {s a : ByteArray} : (s.toList == a.toList) = true ↔ s = a := by
  rw [ByteArray.toList_eq, ByteArray.toList_eq]
  simp only [beq_iff_eq]
  constructor
  · intro h
    apply ByteArray.ext
    exact Array.toList_inj.1 h
  · rintro rfl; rfl
theorem toList_ne {s a : ByteArray} (h : (s.toList == a.toList) = false) : s ≠ a := fun e => by
  have := toList_inj.2 e
  rw [h] at this; cases this

/-- Is a string in a list? -/
def inS (s : ByteArray) (l : List ByteArray) : Bool := l.any (fun a => isS s a.data.toList)
theorem inS_iff {s : ByteArray} {l : List ByteArray} : inS s l = true ↔ s ∈ l := by
  unfold inS
  rw [List.any_eq_true]
  constructor
  · rintro ⟨a, ha, h⟩
    rw [isS_eq, ← ByteArray.toList_eq] at h
    rw [toList_inj.1 h]; exact ha
  · intro h
    exact ⟨s, h, by rw [isS_eq, ← ByteArray.toList_eq]; exact toList_inj.2 rfl⟩

theorem index181_any (l : List ByteArray) (v : Value) (s : ByteArray) (w : World) (hs : Strs w v l) : Calls Tryz.prog 181 #[v, .string s] w fun e w' => ∃ n : Int, e = .returned (.int .i64 n) ∧ (0 ≤ n ↔ s ∈ l) ∧ Ext w w' := by
  obtain ⟨A, c, rfl, hc, hc2, h⟩ := hs.open
  generalize hL : l.length = L at *
  have HL := Lib.hid hL; clear hL
  have HH := Lib.hid h; clear h
  go_enter Tryz.func181, Tryz.ntmps181
  go_wp2
  go_loopw [8] (fun i wr => ∃ k, k ≤ L ∧ i = .int .i64 (k : Nat) ∧ Ext w wr ∧ s ∉ l.take k) (fun i _ => L - (intOf i).toNat)
  case atStart => exact ⟨0, by omega, rfl, Ext.refl _, by simp⟩
  case round =>
    obtain ⟨k, hk, rfl, E, hno⟩ := hrel
    by_cases hlt : k < L
    · obtain ⟨b, o, rfl, hb, hcell⟩ := HH.out (by omega)
      have ka := E.cell (hcell k hlt)
      clear hcell
      generalize hka : l.getD k ⟨#[]⟩ = a at *
      have HKA := Lib.hid hka; clear hka
      have HNO := Lib.hid hno; clear hno
      go_wp2
      · go_ret
        refine ⟨k, rfl, ⟨fun _ => ?_, fun _ => by omega⟩, E⟩
        have he := toList_inj.1 ‹_›
        subst he
        have := getD_lt4 HL.out hlt
        rw [HKA.out] at this
        exact List.mem_of_getElem? this
      · refine ⟨⟨k + 1, by omega, by go_num, E, ?_⟩, by simp [intOf]; omega⟩
        have hne := toList_ne ‹_›
        have := getD_lt4 HL.out hlt
        rw [HKA.out] at this
        rw [List.take_add_one, this]
        simp [HNO.out, hne]
    · obtain rfl : k = L := by omega
      have HNO := Lib.hid hno; clear hno
      go_wp2
      go_ret
      refine ⟨-1, rfl, ⟨fun h => by omega, fun h => ?_⟩, E⟩
      have hn := HNO.out
      rw [List.take_of_length_le (by have := HL.out; omega)] at hn
      exact absurd h hn
theorem contains144_any (l : List ByteArray) (v : Value) (s : ByteArray) (w : World) (hs : Strs w v l) : Calls Tryz.prog 144 #[v, .string s] w (RBool w (inS s l)) := by
  obtain ⟨A, c, rfl, _⟩ := hs.open
  have HS := Lib.hid hs; clear hs
  go_enter Tryz.func144, Tryz.ntmps144
  go_wp2_with (go_at_call 181; refine (index181_any l _ s _ HS.out).mono ?_; rintro e w' ⟨n, rfl, hn, hx⟩; have HN := Lib.hid hn; clear hn)
  go_ret
  refine ⟨?_, ‹_›⟩
  have := HN.out
  have hb : decide (0 ≤ n) = inS s l := by rw [Bool.eq_iff_iff, inS_iff, ← this]; simp
  rw [← hb]; rfl
theorem has_any (l : List ByteArray) (v : Value) (s : ByteArray) (w : World) (hs : Strs w v l) : Calls Tryz.prog 102 #[v, .string s] w (RBool w (inS s l)) := by
  obtain ⟨A, c, rfl, _⟩ := hs.open
  have HS := Lib.hid hs; clear hs
  go_enter Tryz.func102, Tryz.ntmps102
  go_wp2_with (go_at_call 144; refine (contains144_any l _ s _ HS.out).mono ?_; rintro e w' ⟨rfl, hx⟩)
  go_ret
  exact ⟨rfl, ‹_›⟩
end Go.Proofs.YtnklmehphmidhaaGreatDoor
