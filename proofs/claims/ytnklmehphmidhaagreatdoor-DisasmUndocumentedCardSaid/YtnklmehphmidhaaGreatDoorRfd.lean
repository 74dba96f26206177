/- line.Right, on statements that are right. -/
import Derived.Test.YtnklmehphmidhaaGreatDoorRfc
namespace Go.Proofs.YtnklmehphmidhaaGreatDoor
open Go.RowKit
set_option maxRecDepth 100000
set_option maxHeartbeats 1000000
set_option linter.unusedSimpArgs false
set_option linter.unusedVariables false

def wordA (s : ByteArray) : AR := ⟨s, false, ⟨#[]⟩, 0, ⟨#[]⟩⟩
/-- An operand that is right in a dialect. -/
def ARF (d : Int) (a : AR) : Prop := (∃ s, s.toList.isEmpty = false ∧ wordB d s = true ∧ a = wordA s) ∨ (∃ m n, (m = false ∨ (d == 0) = false) ∧ a = numA m n) ∨ (∃ s, LabN s ∧ a = nameA s)

theorem right37_any (d : Int) (op : ByteArray) (a : AR) (h : ARF d a) (w : World) (hT : Tab w) :
    Calls Tryz.prog 37 #[.int .i64 d, .string op, .agg #[.string a.word, .string ⟨#[]⟩, .bool false, .bool a.mem, .string a.op, .int .u16 a.n, .string a.name, .slice none 0 0]] w (RBool w true) := by
  rcases h with ⟨s, hs, hw, rfl⟩ | ⟨m, n, hm, rfl⟩ | ⟨s, hs, rfl⟩
  · have := right37_word d op s hs w hT
    rw [hw] at this
    exact this
  · exact right37_num1 d n m op hm w hT
  · exact right37_nam d op s hs w hT

/-- v reads as the operands l. -/
def RdA (w : World) (v : Value) (l : List AR) : Prop :=
  ∃ A c, v = .slice A l.length c ∧ (0 < l.length → ∃ b o, A = some ⟨b, o, none⟩ ∧ b < w.heap.size ∧ ∀ (k : Nat) a (j : Nat) x, l[k]? = some a → (AR.cells a)[j]? = some x → w.cell? ⟨b, o + k * 8 + j, none⟩ = some x)
theorem RdA.ext {w w' : World} {v : Value} {l : List AR} (h : RdA w v l) (hb : Ext w w') : RdA w' v l := by
  obtain ⟨A, c, hv, h3⟩ := h
  refine ⟨A, c, hv, fun hp => ?_⟩
  obtain ⟨b, o, hA, hlt, hc⟩ := h3 hp
  exact ⟨b, o, hA, Nat.lt_of_lt_of_le hlt hb.size, fun k a j x hx hj => hb.cell (hc k a j x hx hj)⟩
theorem RdA.args {w : World} {base : Nat} {v : Value} {l : List AR} (h : Args w base v l) : RdA w v l := by
  obtain ⟨h1, h2 | ⟨g, cap, cur, rfl, hb, hg, hcap, hm, hs, hx⟩⟩ := id h
  · obtain ⟨rfl, hn⟩ := h2
    exact ⟨none, 0, by rw [hn], fun hp => absurd hp (by omega)⟩
  · refine ⟨_, cap, rfl, fun hp => ⟨g, 0, rfl, (Array.getElem?_eq_some_iff.1 hg).1, fun k a j x hk hj => ?_⟩⟩
    have hj8 : j < 8 := by
      rcases Nat.lt_or_ge j 8 with h | h
      · exact h
      · rw [List.getElem?_eq_none (by simpa [AR.cells] using h)] at hj; cases hj
    rw [Nat.zero_add]
    exact own_cell h (by rw [flatMap_at AR.cells 8 (fun _ => rfl) l k j a hk hj8]; exact hj)

theorem clos36 (d : Int) (a : AR) (h : ARF d a) (gd gs : Nat) (op : ByteArray) (w : World) (hT : Tab w) (hc : w.cell? ⟨gd, 0, none⟩ = some (.int .i64 d)) (hs : w.cell? ⟨gs, 2, none⟩ = some (.string op)) :
    Calls Tryz.prog 36 #[.agg #[.string a.word, .string ⟨#[]⟩, .bool false, .bool a.mem, .string a.op, .int .u16 a.n, .string a.name, .slice none 0 0], .pointer (some ⟨gd, 0, none⟩), .pointer (some ⟨gs, 0, none⟩)] w (RBool w false) := by
  have HT := Lib.hid hT; clear hT
  have H := Lib.hid h; clear h
  have hd1 := World.block_lt_of_cell? w _ hc
  have hs1 := World.block_lt_of_cell? w _ hs
  go_enter Tryz.func36, Tryz.ntmps36
  go_wp2_with (go_at_call 37; refine (right37_any d op a H.out _ (HT.out.ext ((Ext.refl _).alloc _))).mono ?_; rintro e w1 ⟨rfl, hx1⟩)
  go_ret
  exact ⟨rfl, ((Ext.refl _).alloc _).trans hx1⟩

theorem index56_any (d : Int) (l : List AR) (hl : ∀ a ∈ l, ARF d a) (hlen : l.length ≤ 1000) (v : Value) (gd gs : Nat) (op : ByteArray) (w : World) (hr : RdA w v l) (hT : Tab w) (hc : w.cell? ⟨gd, 0, none⟩ = some (.int .i64 d)) (hs : w.cell? ⟨gs, 2, none⟩ = some (.string op)) :
    Calls Tryz.prog 56 #[v, .func (.func 36) #[] #[.pointer (some ⟨gd, 0, none⟩), .pointer (some ⟨gs, 0, none⟩)]] w fun e w' => e = .returned (.int .i64 (-1)) ∧ Ext w w' := by
  obtain ⟨A, c, rfl, h⟩ := hr
  generalize hL : l.length = L at *
  have HL := Lib.hid hL; clear hL
  have HH := Lib.hid h; clear h
  have HT := Lib.hid hT; clear hT
  have HP := Lib.hid hl; clear hl
  have HC := Lib.hid hc; clear hc
  have HS := Lib.hid hs; clear hs
  go_enter Tryz.func56, Tryz.ntmps56
  go_wp2
  go_loopw [8] (fun i wr => ∃ k, k ≤ L ∧ i = .int .i64 (k : Nat) ∧ Ext w wr) (fun i _ => L - (intOf i).toNat)
  case atStart => exact ⟨0, by omega, rfl, Ext.refl _⟩
  case round =>
    obtain ⟨k, hk, rfl, E⟩ := hrel
    by_cases hlt : k < L
    · obtain ⟨b, o, rfl, hb, hcell⟩ := HH.out (by omega)
      obtain ⟨a, ha⟩ : ∃ a, l[k]? = some a := ⟨_, List.getElem?_eq_getElem (by rw [HL.out]; exact hlt)⟩
      have k0 := E.cell (hcell k a 0 _ ha rfl)
      have k1 := E.cell (hcell k a 1 _ ha rfl)
      have k2 := E.cell (hcell k a 2 _ ha rfl)
      have k3 := E.cell (hcell k a 3 _ ha rfl)
      have k4 := E.cell (hcell k a 4 _ ha rfl)
      have k5 := E.cell (hcell k a 5 _ ha rfl)
      have k6 := E.cell (hcell k a 6 _ ha rfl)
      have k7 := E.cell (hcell k a 7 _ ha rfl)
      rw [Nat.add_zero] at k0
      have HM : Hid (a ∈ l) := Lib.hid (List.mem_of_getElem? ha)
      clear hcell ha
      go_wp2_with (go_at_call 36; refine (clos36 d a (HP.out _ HM.out) gd gs op _ (HT.out.ext E) (E.cell HC.out) (E.cell HS.out)).mono ?_; rintro e w1 ⟨rfl, hx1⟩)
      go_roundw
      case rel => exact ⟨k + 1, by omega, by go_num, E.trans ‹_›⟩
      case measure => simp [intOf]; omega
    · obtain rfl : k = L := by omega
      go_wp2
      go_ret
      exact ⟨rfl, E⟩
theorem contains35_any (d : Int) (l : List AR) (hl : ∀ a ∈ l, ARF d a) (hlen : l.length ≤ 1000) (v : Value) (gd gs : Nat) (op : ByteArray) (w : World) (hr : RdA w v l) (hT : Tab w) (hc : w.cell? ⟨gd, 0, none⟩ = some (.int .i64 d)) (hs : w.cell? ⟨gs, 2, none⟩ = some (.string op)) :
    Calls Tryz.prog 35 #[v, .func (.func 36) #[] #[.pointer (some ⟨gd, 0, none⟩), .pointer (some ⟨gs, 0, none⟩)]] w (RBool w false) := by
  obtain ⟨A, c, rfl, h⟩ := id hr
  have HR := Lib.hid hr; clear hr h
  have HT := Lib.hid hT; clear hT
  have HP := Lib.hid hl; clear hl
  have HC := Lib.hid hc; clear hc
  have HS := Lib.hid hs; clear hs
  go_enter Tryz.func35, Tryz.ntmps35
  go_wp2_with (go_at_call 56; refine (index56_any d l HP.out hlen _ gd gs op _ HR.out HT.out HC.out HS.out).mono ?_; rintro e w1 ⟨rfl, hx1⟩)
  go_ret
  exact ⟨rfl, hx1⟩
end Go.Proofs.YtnklmehphmidhaaGreatDoor
