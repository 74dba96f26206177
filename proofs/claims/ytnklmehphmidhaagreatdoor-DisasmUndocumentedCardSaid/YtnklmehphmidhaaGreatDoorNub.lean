/- number: Upper. -/
import Derived.Test.YtnklmehphmidhaaGreatDoorNua
namespace Go.Proofs.YtnklmehphmidhaaGreatDoor
open Go.RowKit
set_option maxRecDepth 100000
set_option maxHeartbeats 4000000
set_option linter.unusedSimpArgs false
set_option linter.unusedVariables false

def upI (x : Int) : Int := if 97 ≤ x ∧ x ≤ 122 then x - 32 else x
def upperS (s : ByteArray) : ByteArray := strOfNums ((List.range s.size).map (fun i => upI (byteI s i)))

/-- '[]byte(s)', laid. -/
theorem bytes_laid (w : World) (s : ByteArray) : Ext w (Lib.bytesWorld w 5 s) ∧ w.heap.size < (Lib.bytesWorld w 5 s).heap.size ∧
    (∀ j, j < s.size → (Lib.bytesWorld w 5 s).cell? ⟨w.heap.size, j, none⟩ = some (.int .u8 (byteI s j))) ∧ (∀ j, j < s.size → (Lib.bytesWorld w 5 s).frozen? ⟨w.heap.size, j, none⟩ = false) := by
  refine ⟨⟨rfl, rfl, rfl, ?_, fun b hb => Lib.bytesWorld_at_old w 5 s b hb⟩, ?_, fun j hj => Lib.bytesWorld_cell w 5 s j hj, fun j hj => ?_⟩
  · rw [Lib.bytesWorld_size]; omega
  · rw [Lib.bytesWorld_size]; omega
  · unfold World.frozen?
    rw [Lib.bytesWorld_at_new]
    have : s.size ≤ (Lib.bytesCells w 5 s).size := by unfold Lib.bytesCells; rw [Array.size_append, Array.size_map]; exact Nat.le_add_right _ _
    simp; omega

structure UpSt (w : World) (s : ByteArray) (g k : Nat) (wr : World) : Prop where
  E : Ext w wr
  lt : g < wr.heap.size
  cell : ∀ j, j < s.size → wr.cell? ⟨g, j, none⟩ = some (.int .u8 (if j < k then upI (byteI s j) else byteI s j))
  free : ∀ j, j < s.size → wr.frozen? ⟨g, j, none⟩ = false

theorem UpSt.next {w wr : World} {s : ByteArray} {g k : Nat} (h : UpSt w s g k wr) (hg : w.heap.size ≤ g) (hk : k < s.size) (x : Int) (hx : x = upI (byteI s k)) : UpSt w s g (k + 1) (wr.setCell ⟨g, k, none⟩ (.int .u8 x)) := by
  subst hx
  refine ⟨h.E.setCell hg _, by simpa using h.lt, fun j hj => ?_, fun j hj => by rw [World.frozen?_setCell]; exact h.free j hj⟩
  by_cases hjk : j = k
  · subst hjk
    rw [World.cell?_setCell_same _ _ _ (h.cell _ hj), if_pos (by omega)]
  · rw [World.cell?_setCell_other _ _ _ _ (by intro e; injection e with e1 e2; omega), h.cell j hj]
    by_cases hlt : j < k
    · rw [if_pos hlt, if_pos (by omega)]
    · rw [if_neg hlt, if_neg (by omega)]
theorem UpSt.skip {w wr : World} {s : ByteArray} {g k : Nat} (h : UpSt w s g k wr) (hk : k < s.size) (hx : byteI s k = upI (byteI s k)) : UpSt w s g (k + 1) wr := by
  refine ⟨h.E, h.lt, fun j hj => ?_, h.free⟩
  rw [h.cell j hj]
  by_cases hlt : j < k
  · rw [if_pos hlt, if_pos (by omega)]
  · rw [if_neg hlt]
    by_cases hjk : j = k
    · subst hjk; rw [if_pos (by omega), ← hx]
    · rw [if_neg (by omega)]

theorem upper_any (s : ByteArray) (hs : (s.size : Int) ≤ 1000000) (w : World) : Calls Tryz.prog 54 #[.string s] w (RStr w (upperS s)) := by
  have hconv := fun W => Lib.run_convert_string_bytes (P := Tryz.prog) W 9 22 5 s Tryz.underlying9 Tryz.underlying22 Tryz.underlying5
  go_enter Tryz.func54, Tryz.ntmps54
  go_wp2
  obtain ⟨E, hlt, hcell, hfree⟩ := bytes_laid w s
  generalize Lib.bytesWorld w 5 s = W1 at *
  generalize grownCap w s.size 0 5 = cap at *
  have HS : Hid (UpSt w s w.heap.size 0 W1) := Lib.hid ⟨E, hlt, fun j hj => by rw [if_neg (by omega)]; exact hcell j hj, hfree⟩
  clear E hlt hcell hfree hconv
  go_loopw [10] (fun i wr => ∃ k : Nat, k ≤ s.size ∧ i = .int .i64 k ∧ Hid (UpSt w s w.heap.size k wr)) (fun i _ => s.size - (intOf i).toNat)
  case atStart => exact ⟨0, by omega, rfl, HS⟩
  case round =>
    obtain ⟨k, hk, rfl, HK⟩ := hrel
    by_cases hlt : k < s.size
    · have kc := HK.out.cell k hlt
      rw [if_neg (by omega)] at kc
      have kf := HK.out.free k hlt
      have hr := byteI_range s k
      obtain ⟨c, hc⟩ : ∃ c, byteI s k = c := ⟨_, rfl⟩
      rw [hc] at kc hr
      have HC := Lib.hid hc; clear hc
      have hc0 := hr.1
      have hc1 := hr.2
      by_cases h1 : 97 ≤ c ∧ c ≤ 122
      · have g1 := h1.1
        have g2 := h1.2
        go_wp2
        go_roundw
        case rel => exact ⟨k + 1, by omega, by go_num, Lib.hid (HK.out.next (Nat.le_refl _) hlt _ (by rw [HC.out, upI, if_pos h1]; omega))⟩
        case measure => simp [intOf]; omega
      · by_cases g1 : 97 ≤ c
        · have g2 : 122 < c := by omega
          go_wp2
          go_roundw
          case rel => exact ⟨k + 1, by omega, by go_num, Lib.hid (HK.out.skip hlt (by rw [HC.out, upI, if_neg h1]))⟩
          case measure => simp [intOf]; omega
        · have g2 : c < 97 := by omega
          go_wp2
          go_roundw
          case rel => exact ⟨k + 1, by omega, by go_num, Lib.hid (HK.out.skip hlt (by rw [HC.out, upI, if_neg h1]))⟩
          case measure => simp [intOf]; omega
    · obtain rfl : k = s.size := by omega
      have hback : (convert 22 9 (.slice (some ⟨w.heap.size, 0, none⟩) s.size cap)).run Tryz.prog wr = .ok (.string (upperS s)) wr :=
        run_convert_bytes_arg (P := Tryz.prog) _ 22 5 Tryz.underlying22 Tryz.underlying5 _ 0 _ _ _ (by simp) (fun i hi => by
          have := HK.out.cell i hi
          rw [if_pos hi] at this
          simp only [Nat.zero_add]
          rw [this]
          simp [List.getD, hi]) 9 Tryz.underlying9
      go_wp2
      go_ret
      exact ⟨rfl, HK.out.E⟩
end Go.Proofs.YtnklmehphmidhaaGreatDoor
