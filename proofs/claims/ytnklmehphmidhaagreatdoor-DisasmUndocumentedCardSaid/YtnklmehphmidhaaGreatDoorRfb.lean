/- line.right. -/
import Derived.Test.YtnklmehphmidhaaGreatDoorRfa
namespace Go.Proofs.YtnklmehphmidhaaGreatDoor
open Go.RowKit
set_option maxRecDepth 100000
set_option maxHeartbeats 1000000
set_option linter.unusedSimpArgs false
set_option linter.unusedVariables false

theorem clos64 (d : Int) (s : ByteArray) (g : Nat) (w : World) (hT : Tab w) (hc : w.cell? ⟨g, 0, none⟩ = some (.int .i64 d)) (hp : plainB d s = true) :
    Calls Tryz.prog 64 #[.string s, .pointer (some ⟨g, 0, none⟩)] w (RBool w false) := by
  have HT := Lib.hid hT; clear hT
  have HP := Lib.hid hp; clear hp
  go_enter Tryz.func64, Tryz.ntmps64
  go_wp2_with (go_at_call 32; refine (plain32_any d s _ HT.out).mono ?_; rw [HP.out]; rintro e w1 ⟨rfl, hx1⟩)
  go_ret
  exact ⟨rfl, hx1⟩

theorem index111_any (d : Int) (l : List ByteArray) (v : Value) (g : Nat) (w : World) (hT : Tab w) (hc : w.cell? ⟨g, 0, none⟩ = some (.int .i64 d)) (hs : RdS w v l) (hl : l.length ≤ 1000) (hp : ∀ s ∈ l, plainB d s = true) :
    Calls Tryz.prog 111 #[v, .func (.func 64) #[] #[.pointer (some ⟨g, 0, none⟩)]] w fun e w' => e = .returned (.int .i64 (-1)) ∧ Ext w w' := by
  obtain ⟨A, c, rfl, hcap, h⟩ := hs
  generalize hL : l.length = L at *
  have HL := Lib.hid hL; clear hL
  have HH := Lib.hid h; clear h
  have HT := Lib.hid hT; clear hT
  have HP := Lib.hid hp; clear hp
  have HC := Lib.hid hc; clear hc
  have eg := enters_of Tryz.func64 (by kernel_rfl) rfl
  go_enter Tryz.func111, Tryz.ntmps111
  go_wp2
  go_loopw [8] (fun i wr => ∃ k, k ≤ L ∧ i = .int .i64 (k : Nat) ∧ Ext w wr) (fun i _ => L - (intOf i).toNat)
  case atStart => exact ⟨0, by omega, rfl, Ext.refl _⟩
  case round =>
    obtain ⟨k, hk, rfl, E⟩ := hrel
    by_cases hlt : k < L
    · obtain ⟨b, o, rfl, hb, hcell⟩ := HH.out (by omega)
      have hx := getD_lt4 HL.out hlt
      have ka := E.cell (hcell k _ hx)
      have HM : Hid (l.getD k ⟨#[]⟩ ∈ l) := Lib.hid (List.mem_of_getElem? hx)
      clear hcell hx
      generalize hka : l.getD k ⟨#[]⟩ = a at *
      clear hka
      go_wp2_with (go_at_call 64; refine (clos64 d a g _ (HT.out.ext E) (E.cell HC.out) (HP.out _ HM.out)).mono ?_; rintro e w1 ⟨rfl, hx1⟩)
      go_roundw
      case rel => exact ⟨k + 1, by omega, by go_num, E.trans ‹_›⟩
      case measure => simp [intOf]; omega
    · obtain rfl : k = L := by omega
      go_wp2
      go_ret
      exact ⟨rfl, E⟩
theorem contains62_any (d : Int) (l : List ByteArray) (v : Value) (g : Nat) (w : World) (hT : Tab w) (hc : w.cell? ⟨g, 0, none⟩ = some (.int .i64 d)) (hs : RdS w v l) (hl : l.length ≤ 1000) (hp : ∀ s ∈ l, plainB d s = true) :
    Calls Tryz.prog 62 #[v, .func (.func 64) #[] #[.pointer (some ⟨g, 0, none⟩)]] w (RBool w false) := by
  obtain ⟨A, c, rfl, _⟩ := id hs
  have HT := Lib.hid hT; clear hT
  have HS := Lib.hid hs; clear hs
  have HC := Lib.hid hc; clear hc
  have HP := Lib.hid hp; clear hp
  go_enter Tryz.func62, Tryz.ntmps62
  go_wp2_with (go_at_call 111; refine (index111_any d l _ g _ HT.out HC.out HS.out hl HP.out).mono ?_; rintro e w1 ⟨rfl, hx1⟩)
  go_ret
  exact ⟨rfl, hx1⟩
end Go.Proofs.YtnklmehphmidhaaGreatDoor
