/- disasm: a label. -/
import Derived.Test.YtnklmehphmidhaaGreatDoorDig
import Derived.Lib.SlBytesConst
namespace Go.Proofs.YtnklmehphmidhaaGreatDoor
open Go.RowKit
set_option maxRecDepth 100000
set_option maxHeartbeats 4000000
set_option linter.unusedSimpArgs false
set_option linter.unusedVariables false

theorem i64_and15 (n : Int) : bits .and .i64 n 15 = n % 16 := by
  have h15 : (BitVec.ofInt 64 15).toNat = 2 ^ 4 - 1 := by decide
  have key : (BitVec.ofInt 64 n &&& BitVec.ofInt 64 15).toNat = (n % ((2 ^ 64 : Nat) : Int)).toNat % 2 ^ 4 := by
    rw [BitVec.toNat_and, BitVec.toNat_ofInt, h15, Nat.and_two_pow_sub_one_eq_mod]
  show IntKind.i64.wrap ((BitVec.ofInt 64 n &&& BitVec.ofInt 64 15).toNat : Nat) = n % 16
  rw [key, IntKind.wrap_i64]
  omega

/-- A digit of base 16. -/
def hexD (x : Int) : Int := if x < 10 then 48 + x else 55 + x
theorem hexD_range (x : Int) (h0 : 0 ≤ x) (h1 : x < 16) : 48 ≤ hexD x ∧ hexD x ≤ 70 := by unfold hexD; split <;> omega
theorem hex_at (x : Int) (h0 : 0 ≤ x) (h1 : x < 16) (h : x.toNat < (ByteArray.mk #[48, 49, 50, 51, 52, 53, 54, 55, 56, 57, 65, 66, 67, 68, 69, 70]).size) :
    (((ByteArray.mk #[48, 49, 50, 51, 52, 53, 54, 55, 56, 57, 65, 66, 67, 68, 69, 70])[x.toNat]'h).toNat : Int) = hexD x := by
  obtain ⟨k, rfl⟩ := Int.eq_ofNat_of_zero_le h0
  simp only [Int.toNat_natCast] at h ⊢
  have hk : k < 16 := by omega
  have key : ∀ i : Fin 16, (((ByteArray.mk #[48, 49, 50, 51, 52, 53, 54, 55, 56, 57, 65, 66, 67, 68, 69, 70])[i.val]'(by have := i.isLt; exact this)).toNat : Int) = hexD (i.val : Int) := by decide
  exact key ⟨k, hk⟩

def labL (n : Int) (k : Nat) : List Int := [76, if k < 1 then hexD (n / 16 / 16 / 16 % 16) else 48, if k < 2 then hexD (n / 16 / 16 % 16) else 48, if k < 3 then hexD (n / 16 % 16) else 48, if k < 4 then hexD (n % 16) else 48]
def labX (n : Int) (k : Nat) : Int := if k = 4 then n else if k = 3 then n / 16 else if k = 2 then n / 16 / 16 else if k = 1 then n / 16 / 16 / 16 else n / 16 / 16 / 16 / 16
def labC (n : Int) (k : Nat) : Array Value := ((labL n k).map (Value.int .u8)).toArray
def labelS (n : Int) : ByteArray := strOfNums [76, hexD (n / 16 / 16 / 16 % 16), hexD (n / 16 / 16 % 16), hexD (n / 16 % 16), hexD (n % 16)]

theorem label_any (n : Int) (h0 : 0 ≤ n) (h1 : n ≤ 65535) (w : World) : Calls Tryz.prog 19 #[.int .i64 n] w (RStr w (labelS n)) := by
  have kc := fun (w : World) (C : Array Value) (n c : Nat) => Lib.run_convert_bytes_const (P := Tryz.prog) w 22 5 C n c Tryz.underlying22 Tryz.underlying5
  have kb := i64_and15
  go_enter Tryz.func19, Tryz.ntmps19
  go_wp2
  go_loopw [0, 4] (fun a i wr => ∃ (k : Nat), k ≤ 4 ∧ i = .int .i64 k ∧ a = .int .i64 (labX n k) ∧ wr.heap[w.heap.size]? = some (.cells (labC n k) 5 (5, 6)) ∧ Ext w wr) (fun _ i _ => (intOf i).toNat)
  case atStart => exact ⟨4, by omega, rfl, rfl, heap_alloc_new _ _, (Ext.refl _).alloc _⟩
  case round =>
    obtain ⟨k, hk, rfl, rfl, hB, E⟩ := hrel
    have hX : 0 ≤ labX n k ∧ labX n k ≤ 65535 := by unfold labX; repeat' split
                                                    all_goals omega
    have HC := Lib.hid (show (labC n k).setIfInBounds k (.int .u8 (hexD (labX n k % 16))) = labC n (k - 1) ∨ k = 0 from by
      rcases (by omega : k = 0 ∨ k = 1 ∨ k = 2 ∨ k = 3 ∨ k = 4) with rfl | rfl | rfl | rfl | rfl
      · exact .inr rfl
      all_goals exact .inl (by simp [labC, labL, labX]))
    have HX := Lib.hid (show labX n k / 16 = labX n (k - 1) ∨ k = 0 from by
      rcases (by omega : k = 0 ∨ k = 1 ∨ k = 2 ∨ k = 3 ∨ k = 4) with rfl | rfl | rfl | rfl | rfl
      · exact .inr rfl
      all_goals exact .inl (by simp [labX]))
    by_cases hk0 : 0 < k
    · have kf : wr.frozen? ⟨w.heap.size, k, none⟩ = false := by simp [World.frozen?, hB]; omega
      have ks : wr.cell? ⟨w.heap.size, k, none⟩ = (labC n k)[k]? := by simp [World.cell?, hB]
      have hin : k < (labC n k).size := by have : (labC n k).size = 5 := by simp [labC, labL]
                                           omega
      rw [Array.getElem?_eq_getElem hin] at ks
      generalize (labC n k)[k] = y at ks
      have kh := hex_at (labX n k % 16) (by omega) (by omega)
      have HB := Lib.hid hB; clear hB
      generalize hx : labX n k = x at *
      have HXX := Lib.hid hx; clear hx
      go_wp2
      go_roundw
      case rel =>
        refine ⟨k - 1, by omega, by go_num, ?_, ?_, ?_⟩
        · rcases HX.out with h | h
          · rw [← h]
          · omega
        · have hb := HB.out
          rcases HC.out with h | h
          · rw [← h]
            simp [World.setCell, Array.getElem?_modify, hb]
          · omega
        · exact E.setCell (Nat.le_refl _) _
      case measure => simp [intOf]; omega
    · obtain rfl : k = 0 := by omega
      have kcv : (convert 22 9 (.slice (some ⟨w.heap.size, 0, none⟩) 5 5)).run Tryz.prog wr = .ok (.string (labelS n)) wr := by
        refine run_convert_bytes_arg (P := Tryz.prog) _ 22 5 Tryz.underlying22 Tryz.underlying5 _ 0 5 5 (labL n 0) rfl (fun i hi => ?_) 9 Tryz.underlying9
        rw [Nat.zero_add]
        simp only [World.cell?, hB]
        rcases (by omega : i = 0 ∨ i = 1 ∨ i = 2 ∨ i = 3 ∨ i = 4) with rfl | rfl | rfl | rfl | rfl <;> simp [labC, labL]
      have HB := Lib.hid hB; clear hB
      go_wp2
      go_ret
      exact ⟨rfl, E⟩
end Go.Proofs.YtnklmehphmidhaaGreatDoor
