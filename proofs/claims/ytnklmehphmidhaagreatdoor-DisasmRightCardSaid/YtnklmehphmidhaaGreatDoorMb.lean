/- isa80: forms, names, operands, sizes, jumps, the reader. -/
import Derived.Test.YtnklmehphmidhaaGreatDoorMa
import Derived.StillTailTactics
namespace Go.Proofs.YtnklmehphmidhaaGreatDoor
section
set_option linter.unusedVariables false
set_option linter.unusedSimpArgs false
open Go.RowKit
set_option maxRecDepth 100000
set_option maxHeartbeats 4000000

theorem form_any (w : World) (v : Value) : Calls Tryz.prog 66 #[v] w fun e w' => e = .returned v ∧ w = w' := by
  go_enter Tryz.func66, Tryz.ntmps66
  go_wp2
  go_ret
  exact ⟨rfl, rfl⟩

theorem pick_any (w : World) (i : Int) (v : Value) (l : List ByteArray) (hs : Strs w v l) (h0 : 0 ≤ i) (h1 : i < l.length) :
    Calls Tryz.prog 68 #[.int .u8 i, v] w fun e w' => e = .returned (.string (l.getD i.toNat ⟨#[]⟩)) ∧ w = w' := by
  obtain ⟨A, c, rfl, hc1, hc2, h3⟩ := hs
  obtain ⟨b, o, rfl, hlt, hc⟩ := h3 (by omega)
  obtain ⟨n, rfl⟩ := Int.eq_ofNat_of_zero_le h0
  have hx : w.cell? ⟨b, o + n, none⟩ = some (.string (l.getD n ⟨#[]⟩)) := hc n _ (by simp [List.getElem?_eq_getElem (show n < l.length by omega)])
  have h1' : n < l.length := by omega
  clear hc h3
  generalize hL : l.length = L at *
  generalize hS : l.getD n ⟨#[]⟩ = s at *
  have HL := Lib.hid hL; clear hL
  have HS := Lib.hid hS; clear hS
  go_enter Tryz.func68, Tryz.ntmps68
  go_wp2
  go_ret
  exact ⟨by rw [← HS.out]; simp, rfl⟩

theorem pick8 (w : World) (i : Int) (k : Nat) (a b c d e f g h : ByteArray) (hk : k = w.heap.size) (h0 : 0 ≤ i) (h1 : i < 8) :
    Calls Tryz.prog 68 #[.int .u8 i, .slice (some ⟨k, 0, none⟩) 8 8] (w.alloc (.cells #[.string a, .string b, .string c, .string d, .string e, .string f, .string g, .string h] 9)) fun r w' => r = .returned (.string ([a, b, c, d, e, f, g, h].getD i.toNat ⟨#[]⟩)) ∧ w.alloc (.cells #[.string a, .string b, .string c, .string d, .string e, .string f, .string g, .string h] 9) = w' :=
  hk ▸ pick_any _ _ _ _ (Strs.mk8 ..) h0 (by show _ < (8 : Int); omega)
theorem pick4 (w : World) (i : Int) (k : Nat) (a b c d : ByteArray) (hk : k = w.heap.size) (h0 : 0 ≤ i) (h1 : i < 4) :
    Calls Tryz.prog 68 #[.int .u8 i, .slice (some ⟨k, 0, none⟩) 4 4] (w.alloc (.cells #[.string a, .string b, .string c, .string d] 9)) fun r w' => r = .returned (.string ([a, b, c, d].getD i.toNat ⟨#[]⟩)) ∧ w.alloc (.cells #[.string a, .string b, .string c, .string d] 9) = w' :=
  hk ▸ pick_any _ _ _ _ (Strs.mk4 ..) h0 (by show _ < (4 : Int); omega)

theorem pick2 (w : World) (i : Int) (k : Nat) (a b : ByteArray) (hk : k = w.heap.size) (h0 : 0 ≤ i) (h1 : i < 2) :
    Calls Tryz.prog 68 #[.int .u8 i, .slice (some ⟨k, 0, none⟩) 2 2] (w.alloc (.cells #[.string a, .string b] 9)) fun r w' => r = .returned (.string ([a, b].getD i.toNat ⟨#[]⟩)) ∧ w.alloc (.cells #[.string a, .string b] 9) = w' :=
  hk ▸ pick_any _ _ _ _ (Strs.mk2 ..) h0 (by show _ < (2 : Int); omega)

def regL : List ByteArray := [⟨#[66]⟩, ⟨#[67]⟩, ⟨#[68]⟩, ⟨#[69]⟩, ⟨#[72]⟩, ⟨#[76]⟩, ⟨#[77]⟩, ⟨#[65]⟩]
def regS (i : Int) : ByteArray := regL.getD (i % 8).toNat ⟨#[]⟩
theorem reg_any (w : World) (i : Int) (h0 : 0 ≤ i) (h1 : i ≤ 255) : Calls Tryz.prog 67 #[.int .u8 i] w (RStr w (regS i)) := by
  go_enter Tryz.func67, Tryz.ntmps67
  go_wp2_with (go_at_call 68; (with_reducible refine (pick8 _ _ _ _ _ _ _ _ _ _ _ (by simp) (by omega) (by omega)).mono ?_); rintro e w' ⟨rfl, rfl⟩)
  go_ret
  exact ⟨rfl, (Ext.refl _).alloc _⟩

def pairL : List ByteArray := [⟨#[66]⟩, ⟨#[68]⟩, ⟨#[72]⟩, ⟨#[83, 80]⟩]
def pairS (i : Int) : ByteArray := pairL.getD (i % 4).toNat ⟨#[]⟩
theorem pair_any (w : World) (i : Int) (h0 : 0 ≤ i) (h1 : i ≤ 255) : Calls Tryz.prog 112 #[.int .u8 i] w (RStr w (pairS i)) := by
  have hb3 := band3 i h0 (by omega)
  go_enter Tryz.func112, Tryz.ntmps112
  go_wp2_with (go_at_call 68; (with_reducible refine (pick4 _ _ _ _ _ _ _ (by simp) (by omega) (by omega)).mono ?_); rintro e w' ⟨rfl, rfl⟩)
  go_ret
  exact ⟨rfl, (Ext.refl _).alloc _⟩

def condL : List ByteArray := [⟨#[78, 90]⟩, ⟨#[90]⟩, ⟨#[78, 67]⟩, ⟨#[67]⟩, ⟨#[80, 79]⟩, ⟨#[80, 69]⟩, ⟨#[80]⟩, ⟨#[77]⟩]
def condS (i : Int) : ByteArray := condL.getD (i % 8).toNat ⟨#[]⟩
theorem cond_any (w : World) (i : Int) (h0 : 0 ≤ i) (h1 : i ≤ 255) : Calls Tryz.prog 113 #[.int .u8 i] w (RStr w (condS i)) := by
  go_enter Tryz.func113, Tryz.ntmps113
  go_wp2_with (go_at_call 68; (with_reducible refine (pick8 _ _ _ _ _ _ _ _ _ _ _ (by simp) (by omega) (by omega)).mono ?_); rintro e w' ⟨rfl, rfl⟩)
  go_ret
  exact ⟨rfl, (Ext.refl _).alloc _⟩


def lowS (op : Int) : List ByteArray :=
  if (op % 8 == 4) = true then [⟨#[73, 78, 82]⟩, regS (op / 8)]
  else if (op % 8 == 5) = true then [⟨#[68, 67, 82]⟩, regS (op / 8)]
  else if (op % 8 == 6) = true then [⟨#[77, 86, 73]⟩, regS (op / 8), ⟨#[100, 56]⟩]
  else if (op % 8 == 7) = true then [[⟨#[82, 76, 67]⟩, ⟨#[82, 82, 67]⟩, ⟨#[82, 65, 76]⟩, ⟨#[82, 65, 82]⟩, ⟨#[68, 65, 65]⟩, ⟨#[67, 77, 65]⟩, ⟨#[83, 84, 67]⟩, ⟨#[67, 77, 67]⟩].getD (op / 8).toNat ⟨#[]⟩]
  else if (op % 16 == 1) = true then [⟨#[76, 88, 73]⟩, pairS (op / 16), ⟨#[100, 49, 54]⟩]
  else if (op % 16 == 3) = true then [⟨#[73, 78, 88]⟩, pairS (op / 16)]
  else if (op % 16 == 9) = true then [⟨#[68, 65, 68]⟩, pairS (op / 16)]
  else if (op % 16 == 11) = true then [⟨#[68, 67, 88]⟩, pairS (op / 16)]
  else if (op == 0) = true then [⟨#[78, 79, 80]⟩]
  else if (op == 2) = true ∨ (op == 18) = true then [⟨#[83, 84, 65, 88]⟩, pairS (op / 16)]
  else if (op == 10) = true ∨ (op == 26) = true then [⟨#[76, 68, 65, 88]⟩, pairS (op / 16)]
  else if (op == 34) = true ∨ (op == 42) = true ∨ (op == 50) = true ∨ (op == 58) = true then [[⟨#[83, 72, 76, 68]⟩, ⟨#[76, 72, 76, 68]⟩, ⟨#[83, 84, 65]⟩, ⟨#[76, 68, 65]⟩].getD (op / 8 % 4).toNat ⟨#[]⟩, ⟨#[100, 49, 54]⟩]
  else []
theorem low_any (op : Int) (h0 : 0 ≤ op) (h1 : op < 64) (w : World) : Calls Tryz.prog 65 #[.int .u8 op] w (RStrs w (lowS op)) := by
  have hb3 := band3 (op / 8) (by omega) (by omega)
  go_enter Tryz.func65, Tryz.ntmps65
  go_wp2_with (first
    | (go_at_call 66; (with_reducible refine (form_any _ _).mono ?_); rintro e w' ⟨rfl, rfl⟩)
    | (go_at_call 67; (with_reducible refine (reg_any _ _ (by omega) (by omega)).mono ?_); rintro e w' ⟨rfl, hx⟩)
    | (go_at_call 112; (with_reducible refine (pair_any _ _ (by omega) (by omega)).mono ?_); rintro e w' ⟨rfl, hx⟩)
    | (go_at_call 68; (with_reducible refine (pick8 _ _ _ _ _ _ _ _ _ _ _ (by simp) (by omega) (by omega)).mono ?_); rintro e w' ⟨rfl, rfl⟩)
    | (go_at_call 68; (with_reducible refine (pick4 _ _ _ _ _ _ _ (by simp) (by omega) (by omega)).mono ?_); rintro e w' ⟨rfl, rfl⟩))
  all_goals go_ret
  all_goals first
    | (refine RStrs.m0 (Ext.refl _) ?_; simp [lowS, *]; done)
    | (refine RStrs.m1 (by simp) ?_ ?_; (repeat (first | exact Ext.refl _ | assumption | apply Ext.alloc)); simp [lowS, *]; done)
    | (refine RStrs.m2 (by simp) ?_ ?_; (repeat (first | exact Ext.refl _ | assumption | apply Ext.alloc)); simp [lowS, *]; done)
    | (refine RStrs.m3 (by simp) ?_ ?_; (repeat (first | exact Ext.refl _ | assumption | apply Ext.alloc)); simp [lowS, *]; done)
end

section
set_option linter.unusedVariables false
set_option linter.unusedSimpArgs false
open Go.RowKit
set_option maxRecDepth 100000
set_option maxHeartbeats 4000000

def highS (op : Int) : List ByteArray :=
  if (op % 8 == 0) = true then [(⟨#[82]⟩ : ByteArray) ++ condS (op / 8 % 8)]
  else if (op % 8 == 2) = true then [(⟨#[74]⟩ : ByteArray) ++ condS (op / 8 % 8), ⟨#[100, 49, 54]⟩]
  else if (op % 8 == 4) = true then [(⟨#[67]⟩ : ByteArray) ++ condS (op / 8 % 8), ⟨#[100, 49, 54]⟩]
  else if (op % 8 == 6) = true then [[⟨#[65, 68, 73]⟩, ⟨#[65, 67, 73]⟩, ⟨#[83, 85, 73]⟩, ⟨#[83, 66, 73]⟩, ⟨#[65, 78, 73]⟩, ⟨#[88, 82, 73]⟩, ⟨#[79, 82, 73]⟩, ⟨#[67, 80, 73]⟩].getD (op / 8 % 8).toNat ⟨#[]⟩, ⟨#[100, 56]⟩]
  else if (op % 8 == 7) = true then [⟨#[82, 83, 84]⟩, strOfNums [48 + op / 8 % 8]]
  else if (op == 193) = true ∨ (op == 209) = true ∨ (op == 225) = true ∨ (op == 241) = true then [⟨#[80, 79, 80]⟩, [⟨#[66]⟩, ⟨#[68]⟩, ⟨#[72]⟩, ⟨#[80, 83, 87]⟩].getD (op / 16 % 4).toNat ⟨#[]⟩]
  else if (op == 197) = true ∨ (op == 213) = true ∨ (op == 229) = true ∨ (op == 245) = true then [⟨#[80, 85, 83, 72]⟩, [⟨#[66]⟩, ⟨#[68]⟩, ⟨#[72]⟩, ⟨#[80, 83, 87]⟩].getD (op / 16 % 4).toNat ⟨#[]⟩]
  else if (op == 201) = true ∨ (op == 233) = true ∨ (op == 249) = true then [[⟨#[82, 69, 84]⟩, ⟨#[45]⟩, ⟨#[80, 67, 72, 76]⟩, ⟨#[83, 80, 72, 76]⟩].getD (op / 16 % 4).toNat ⟨#[]⟩]
  else if (op == 195) = true then [⟨#[74, 77, 80]⟩, ⟨#[100, 49, 54]⟩]
  else if (op == 205) = true then [⟨#[67, 65, 76, 76]⟩, ⟨#[100, 49, 54]⟩]
  else if (op == 211) = true ∨ (op == 219) = true then [[⟨#[79, 85, 84]⟩, ⟨#[73, 78]⟩].getD (op / 8 % 2).toNat ⟨#[]⟩, ⟨#[100, 56]⟩]
  else if (op == 227) = true ∨ (op == 235) = true ∨ (op == 243) = true ∨ (op == 251) = true then [[⟨#[88, 84, 72, 76]⟩, ⟨#[88, 67, 72, 71]⟩, ⟨#[68, 73]⟩, ⟨#[69, 73]⟩].getD (op / 8 % 4).toNat ⟨#[]⟩]
  else []
theorem condS_size (i : Int) : (condS i).size ≤ 2 := by
  have h : ∀ k : Nat, k < 8 → (condL.getD k ⟨#[]⟩).size ≤ 2 := by decide
  exact h _ (by omega)
theorem high_any (op : Int) (h0 : 0 ≤ op) (h1 : op < 256) (w : World) : Calls Tryz.prog 69 #[.int .u8 op] w (RStrs w (highS op)) := by
  have hb3 := band3 (op / 16) (by omega) (by omega)
  have hb4 := band3 (op / 8 % 8) (by omega) (by omega)
  have hb1 := band1 (op / 8 % 8) (by omega) (by omega)
  have hcz := condS_size (op / 8 % 8)
  have hcv := conv1
  go_enter Tryz.func69, Tryz.ntmps69
  go_wp2_with (first
    | (go_at_call 66; (with_reducible refine (form_any _ _).mono ?_); rintro e w' ⟨rfl, rfl⟩)
    | (go_at_call 113; (with_reducible refine (cond_any _ _ (by omega) (by omega)).mono ?_); rintro e w' ⟨rfl, hx⟩)
    | (go_at_call 68; (with_reducible refine (pick8 _ _ _ _ _ _ _ _ _ _ _ (by simp) (by omega) (by omega)).mono ?_); rintro e w' ⟨rfl, rfl⟩)
    | (go_at_call 68; (with_reducible refine (pick4 _ _ _ _ _ _ _ (by simp) (by omega) (by omega)).mono ?_); rintro e w' ⟨rfl, rfl⟩)
    | (go_at_call 68; (with_reducible refine (pick2 _ _ _ _ _ (by simp) (by omega) (by omega)).mono ?_); rintro e w' ⟨rfl, rfl⟩))
  all_goals try go_ret
  all_goals clear hcv
  all_goals first
    | (refine RStrs.m0 ?_ ?_; (repeat (first | exact Ext.refl _ | assumption | apply Ext.alloc)); simp [highS, *]; done)
    | (refine RStrs.m1 (by simp) ?_ ?_; (repeat (first | exact Ext.refl _ | assumption | apply Ext.alloc | (refine Ext.trans ?_ (by assumption)))); simp [highS, *]; done)
    | (refine RStrs.m2 (by simp) ?_ ?_; (repeat (first | exact Ext.refl _ | assumption | apply Ext.alloc | (refine Ext.trans ?_ (by assumption)))); simp [highS, *]; done)
end

section
set_option linter.unusedVariables false
set_option linter.unusedSimpArgs false
open Go.RowKit
set_option maxRecDepth 100000
set_option maxHeartbeats 4000000

def wordsS (op : Int) : List ByteArray :=
  if (op / 64 == 0) = true then lowS op
  else if (op / 64 == 1) = true then (if (op == 118) = true then [⟨#[72, 76, 84]⟩] else [⟨#[77, 79, 86]⟩, regS (op / 8), regS op])
  else if (op / 64 == 2) = true then [[⟨#[65, 68, 68]⟩, ⟨#[65, 68, 67]⟩, ⟨#[83, 85, 66]⟩, ⟨#[83, 66, 66]⟩, ⟨#[65, 78, 65]⟩, ⟨#[88, 82, 65]⟩, ⟨#[79, 82, 65]⟩, ⟨#[67, 77, 80]⟩].getD (op / 8 % 8).toNat ⟨#[]⟩, regS op]
  else highS op

theorem words_any (op : Int) (h0 : 0 ≤ op) (h1 : op < 256) (w : World) : Calls Tryz.prog 38 #[.int .u8 op] w (RStrs w (wordsS op)) := by
  go_enter Tryz.func38, Tryz.ntmps38
  go_wp2_with (first
    | (go_at_call 66; (with_reducible refine (form_any _ _).mono ?_); rintro e w' ⟨rfl, rfl⟩)
    | (go_at_call 67; (with_reducible refine (reg_any _ _ (by omega) (by omega)).mono ?_); rintro e w' ⟨rfl, hx⟩)
    | (go_at_call 65; (with_reducible refine (low_any _ (by omega) (by have := ‹(op / 64 == 0) = true›; simp at this; omega) _).mono ?_); rintro e w' ⟨v, rfl, hs, hx⟩)
    | (go_at_call 69; (with_reducible refine (high_any _ (by omega) (by omega) _).mono ?_); rintro e w' ⟨v, rfl, hs, hx⟩)
    | (go_at_call 68; (with_reducible refine (pick8 _ _ _ _ _ _ _ _ _ _ _ (by simp) (by omega) (by omega)).mono ?_); rintro e w' ⟨rfl, rfl⟩))
  all_goals try go_ret
  all_goals first
    | (exact RStrs.mk hs (by simp [wordsS, *]) hx)
    | (refine RStrs.m1 (by simp) ?_ ?_; (repeat (first | exact Ext.refl _ | assumption | apply Ext.alloc | (refine Ext.trans ?_ (by assumption)))); simp [wordsS, *]; done)
    | (refine RStrs.m2 (by simp) ?_ ?_; (repeat (first | exact Ext.refl _ | assumption | apply Ext.alloc | (refine Ext.trans ?_ (by assumption)))); simp [wordsS, *]; done)
    | (refine RStrs.m3 (by simp) ?_ ?_; (repeat (first | exact Ext.refl _ | assumption | apply Ext.alloc | (refine Ext.trans ?_ (by assumption)))); simp [wordsS, *]; done)

def nameOf (l : List ByteArray) : ByteArray := l.getD 0 ⟨#[]⟩

theorem name_any (op : Int) (h0 : 0 ≤ op) (h1 : op < 256) (w : World) : Calls Tryz.prog 77 #[.int .u8 op] w (RStr w (nameOf (wordsS op))) := by
  generalize hl : wordsS op = l
  have HL := Lib.hid hl; clear hl
  go_enter Tryz.func77, Tryz.ntmps77
  go_wp2_with fail
  refine (words_any _ h0 h1 _).mono ?_
  rintro e w1 ⟨v, rfl, hs, hx⟩
  rw [HL.out] at hs
  obtain ⟨A, c, rfl, hc1, hc2, h3⟩ := hs.open
  clear hs
  by_cases hp : 0 < l.length
  · obtain ⟨b, o, rfl, hlt, hc⟩ := h3 hp
    have hc0 := hc 0 hp
    simp only [Nat.add_zero] at hc0
    generalize hn : l.getD 0 ⟨#[]⟩ = n at *
    have HN := Lib.hid hn; clear hn hc h3
    generalize l.length = L at *
    go_wp2
    go_ret
    exact ⟨by rw [← HN.out]; rfl, hx⟩
  · have hz : l.length = 0 := by omega
    have HZ := Lib.hid hz
    rw [hz]; clear hz h3 hc1 hp
    go_wp2
    go_ret
    exact ⟨by rw [show l = [] from List.eq_nil_of_length_eq_zero HZ.out]; rfl, hx⟩
end

section
set_option linter.unusedVariables false
set_option linter.unusedSimpArgs false
open Go.RowKit
set_option maxRecDepth 100000
set_option maxHeartbeats 4000000

theorem args_any (op : Int) (h0 : 0 ≤ op) (h1 : op < 256) (w : World) : Calls Tryz.prog 78 #[.int .u8 op] w (RStrs w (wordsS op).tail) := by
  generalize hl : wordsS op = l
  have HL := Lib.hid hl; clear hl
  go_enter Tryz.func78, Tryz.ntmps78
  go_wp2_with fail
  refine (words_any _ h0 h1 _).mono ?_
  rintro e w1 ⟨v, rfl, hs, hx⟩
  rw [HL.out] at hs
  obtain ⟨A, c, rfl, hc1, hc2, h3⟩ := hs.open
  by_cases hp : 0 < l.length
  · obtain ⟨b, o, rfl, hlt, hc⟩ := h3 hp
    clear h3 hc
    have hs2 := fun (h : ¬ c = 1) => hs.tail rfl hp h
    have hs1 := fun (h : c = 1) => tail_one (l := l) (by omega)
    have HS2 := Lib.hid hs2
    have HS1 := Lib.hid hs1
    clear hs hs1 hs2
    generalize hL : l.length = L at *
    clear hL
    go_wp2
    · go_ret
      exact ⟨_, rfl, by rw [HS1.out ‹_›]; rw [show L - 1 = 0 by omega]; exact Strs.empty _ _ _ (by omega), hx⟩
    · go_ret
      exact ⟨_, rfl, HS2.out ‹_›, hx⟩
  · have hz : l.length = 0 := by omega
    have HZ := Lib.hid hz
    clear hs
    rw [hz]; clear hz h3 hc1 hp
    go_wp2
    go_ret
    exact ⟨_, rfl, by rw [show l = [] from List.eq_nil_of_length_eq_zero HZ.out]; exact Strs.nil _, hx⟩

def sizeL (l : List ByteArray) : Int :=
  if l.length = 0 then 0 else if isS (l.getD (l.length - 1) ⟨#[]⟩) [100, 49, 54] = true then 3 else if isS (l.getD (l.length - 1) ⟨#[]⟩) [100, 56] = true then 2 else 1
theorem size_any (op : Int) (h0 : 0 ≤ op) (h1 : op < 256) (w : World) : Calls Tryz.prog 15 #[.int .u8 op] w (RInt w .i64 (sizeL (wordsS op))) := by
  generalize hl : wordsS op = l
  have HL := Lib.hid hl; clear hl
  go_enter Tryz.func15, Tryz.ntmps15
  go_wp2_with fail
  refine (words_any _ h0 h1 _).mono ?_
  rintro e w1 ⟨v, rfl, hs, hx⟩
  rw [HL.out] at hs
  obtain ⟨A, c, rfl, hc1, hc2, h3⟩ := hs.open
  clear hs
  by_cases hp : 0 < l.length
  · obtain ⟨b, o, rfl, hlt, hc⟩ := h3 hp
    have hc0 := hc (l.length - 1) (by omega)
    generalize hn : l.getD (l.length - 1) ⟨#[]⟩ = n at *
    have HN := Lib.hid hn; clear hn hc h3
    generalize hL : l.length = L at *
    have HLL := Lib.hid hL; clear hL
    have hz : ((L : Int) == 0) = false := by simp; omega
    have hz1 : ((L : Int) - 1).toNat = L - 1 := by omega
    go_wp2
    all_goals
      go_ret
      refine ⟨?_, hx⟩
      have h1 := HN.out
      have h2 := HLL.out
      unfold sizeL
      rw [h2, h1, if_neg (by omega), isS_eq, isS_eq]
      simp [*]
  · have hz : l.length = 0 := by omega
    have HZ := Lib.hid hz
    rw [hz]; clear hz h3 hc1 hp
    go_wp2
    go_ret
    exact ⟨by simp [sizeL, HZ.out], hx⟩

def condI (op : Int) : Int := if (op / 64 == 3) = true ∧ (op % 2 == 0) = true ∧ (op % 8 != 6) = true then op / 8 % 8 else -1
theorem condI_any (op : Int) (h0 : 0 ≤ op) (h1 : op < 256) (w : World) : Calls Tryz.prog 123 #[.int .u8 op] w (RInt w .i64 (condI op)) := by
  have hb1 := band1 op h0 h1
  by_cases hA : op / 64 = 3
  all_goals by_cases hB : op % 2 = 0
  all_goals by_cases hC : op % 8 = 6
  all_goals
    have a1 : (op / 64 == 3) = decide (op / 64 = 3) := rfl
    have a2 : (op % 2 == 0) = decide (op % 2 = 0) := rfl
    have a3 : (op % 8 != 6) = !decide (op % 8 = 6) := rfl
    simp only [hA, hB, hC, decide_true, decide_false, Bool.not_true, Bool.not_false] at a1 a2 a3
    have A := Lib.hid (⟨hA, hB, hC⟩ : _ ∧ _ ∧ _)
    clear hA hB hC
    go_enter Tryz.func123, Tryz.ntmps123
    go_wp2
    all_goals go_ret
    all_goals exact ⟨by simp [condI, *], Ext.refl _⟩
end

section
set_option linter.unusedVariables false
open Go.RowKit
set_option maxRecDepth 100000
set_option maxHeartbeats 4000000
set_option linter.unusedSimpArgs false

def jumpsB (op : Int) : Bool := if (op == 195) = true ∨ (op == 205) = true then true else if 0 ≤ condI op then op % 8 != 0 else false
theorem jumps_any (op : Int) (h0 : 0 ≤ op) (h1 : op < 256) (w : World) : Calls Tryz.prog 76 #[.int .u8 op] w (RBool w (jumpsB op)) := by
  generalize hc : condI op = c
  have HC := Lib.hid hc; clear hc
  go_enter Tryz.func76, Tryz.ntmps76
  go_wp2_with (go_at_call 123; refine (condI_any _ (by omega) (by omega) _).mono ?_; rw [HC.out]; rintro e w' ⟨rfl, hx⟩)
  all_goals go_ret
  all_goals refine ⟨?_, by first | exact Ext.refl _ | assumption⟩
  all_goals
    have h := HC.out
    simp [jumpsB, *] <;> omega

/-- v reads as the list l of bytes. -/
def Byts (w : World) (v : Value) (l : List Int) : Prop :=
  ∃ A c, v = .slice A l.length c ∧ l.length ≤ c ∧ c ≤ 140737488351232 ∧ (∀ x ∈ l, 0 ≤ x ∧ x ≤ 255) ∧ (0 < l.length → ∃ b o, A = some ⟨b, o, none⟩ ∧ b < w.heap.size ∧ ∀ j, j < l.length → w.cell? ⟨b, o + j, none⟩ = some (.int .u8 (l.getD j 0)))
theorem Byts.ext {w w' : World} {v : Value} {l : List Int} (h : Byts w v l) (hb : Ext w w') : Byts w' v l := by
  obtain ⟨A, c, hv, h1, h2, hr, h3⟩ := h
  refine ⟨A, c, hv, h1, h2, hr, fun hp => ?_⟩
  obtain ⟨b, o, hA, hlt, hc⟩ := h3 hp
  exact ⟨b, o, hA, Nat.lt_of_lt_of_le hlt hb.size, fun j hj => hb.cell (hc j hj)⟩
theorem getD_range {l : List Int} (h : ∀ x ∈ l, 0 ≤ x ∧ x ≤ 255) (j : Nat) : 0 ≤ l.getD j 0 ∧ l.getD j 0 ≤ 255 := by
  rcases Nat.lt_or_ge j l.length with hj | hj
  · simpa [List.getElem?_eq_getElem hj] using h l[j] (List.getElem_mem hj)
  · simp [List.getElem?_eq_none hj]

theorem sizeL_range (l : List ByteArray) : 0 ≤ sizeL l ∧ sizeL l ≤ 3 := by
  unfold sizeL; split; · decide
  split; · decide
  split <;> decide

/-- What stands at the begin: the opcode, its number, its size, the kind. -/
def readS (b : List Int) : Int × Int × Int × Int :=
  if b.length = 0 then (0, 0, 0, 2)
  else if sizeL (wordsS (b.getD 0 0)) = 0 then (0, 0, 0, 8)
  else if (b.length : Int) < sizeL (wordsS (b.getD 0 0)) then (0, 0, 0, 2)
  else (b.getD 0 0, if sizeL (wordsS (b.getD 0 0)) = 1 then 0 else if sizeL (wordsS (b.getD 0 0)) = 2 then b.getD 1 0 else b.getD 2 0 * 256 + b.getD 1 0, sizeL (wordsS (b.getD 0 0)), 0)

theorem read_any (b : List Int) (v : Value) (w : World) (hb : Byts w v b) : Calls Tryz.prog 75 #[v] w fun e w' => e = .returned (.tuple #[.agg #[.int .u8 (readS b).1, .int .u16 (readS b).2.1], .int .i64 (readS b).2.2.1, .int .i64 (readS b).2.2.2]) ∧ Ext w w' := by
  obtain ⟨A, c, rfl, hc1, hc2, hr, h3⟩ := hb
  by_cases hp : 0 < b.length
  · obtain ⟨g, o, rfl, hlt, hc⟩ := h3 hp
    have hc0 := hc 0 hp
    simp only [Nat.add_zero] at hc0
    have r0 := getD_range hr 0
    generalize hx0 : b.getD 0 0 = x0 at *
    generalize hsz : sizeL (wordsS x0) = sz
    have hszr : 0 ≤ sz ∧ sz ≤ 3 := hsz ▸ sizeL_range _
    generalize hL : b.length = L at *
    have HX0 := Lib.hid hx0; have HS := Lib.hid hsz; have HL := Lib.hid hL
    have hR := Lib.hid hr
    clear hx0 hsz hL hr h3
    have hlk := lt_add hlt
    have hne : ¬ w.heap.size = g := by omega
    have hne' : ¬ g = w.heap.size := by omega
    have hz2 : ((L : Int) == 0) = false := by simp; omega
    have fin : readS b = if sz = 0 then (0, 0, 0, 8) else if (L : Int) < sz then (0, 0, 0, 2) else (x0, if sz = 1 then 0 else if sz = 2 then b.getD 1 0 else b.getD 2 0 * 256 + b.getD 1 0, sz, 0) := by
      unfold readS
      rw [HX0.out, HS.out, HL.out, if_neg (by omega)]
    have FIN := Lib.hid fin; clear fin
    have hz0 : ∀ n : Int, sz = n → sz = 0 ∨ sz = 1 ∨ sz = 2 ∨ sz = 3 := fun n h => by omega
    rcases hz0 _ rfl with hs0 | hs0
    · have HS0 := Lib.hid hs0
      have hz1 : (sz == 0) = true := by simp [hs0]
      clear hs0 hc hz0
      go_enter Tryz.func75, Tryz.ntmps75
      go_wp2_with (go_at_call 15; refine (size_any _ (by omega) (by omega) _).mono ?_; rw [HS.out]; rintro e w' ⟨rfl, hx⟩; have k0 := hx.block.1 0 (.int .u8 0) rfl; have k1 := hx.block.1 1 (.int .u16 0) rfl; have f0 := hx.block.2 0; have f1 := hx.block.2 1; have d0 := (((Ext.refl _).alloc _).trans hx).cell hc0)
      refine bodyPost_ret (v := .tuple #[.agg #[.int .u8 0, .int .u16 0], .int .i64 0, .int .i64 8]) (by simp (maxDischargeDepth := 9) [results, Tryz.results75, go_sem, k0, k1, f0, f1]) rfl ⟨?_, ?_⟩
      · rw [FIN.out, if_pos HS0.out]
      · exact ((Ext.trans ((Ext.refl _).alloc _) hx).setCell (by simp) _).setCell (by simp) _
    · by_cases hls : (L : Int) < sz
      · have HS0 := Lib.hid hs0
        have hz1 : (sz == 0) = false := by rcases hs0 with h | h | h <;> simp [h]
        clear hs0 hc hz0
        go_enter Tryz.func75, Tryz.ntmps75
        go_wp2_with (go_at_call 15; refine (size_any _ (by omega) (by omega) _).mono ?_; rw [HS.out]; rintro e w' ⟨rfl, hx⟩; have k0 := hx.block.1 0 (.int .u8 0) rfl; have k1 := hx.block.1 1 (.int .u16 0) rfl; have f0 := hx.block.2 0; have f1 := hx.block.2 1; have d0 := (((Ext.refl _).alloc _).trans hx).cell hc0)
        refine bodyPost_ret (v := .tuple #[.agg #[.int .u8 0, .int .u16 0], .int .i64 0, .int .i64 2]) (by simp (maxDischargeDepth := 9) [results, Tryz.results75, go_sem, k0, k1, f0, f1]) rfl ⟨?_, ?_⟩
        · have := HS0.out
          rw [FIN.out, if_neg (by omega), if_pos hls]
        · exact ((Ext.trans ((Ext.refl _).alloc _) hx).setCell (by simp) _).setCell (by simp) _
      · have hls' : ¬ (L : Int) < sz := hls
        rcases hs0 with rfl | rfl | rfl
        · clear hz0 hc
          go_enter Tryz.func75, Tryz.ntmps75
          go_wp2_with (go_at_call 15; refine (size_any _ (by omega) (by omega) _).mono ?_; rw [HS.out]; rintro e w' ⟨rfl, hx⟩; have k0 := hx.block.1 0 (.int .u8 0) rfl; have k1 := hx.block.1 1 (.int .u16 0) rfl; have f0 := hx.block.2 0; have f1 := hx.block.2 1; have d0 := (((Ext.refl _).alloc _).trans hx).cell hc0)
          refine wp_loop_rounds 1 ?_
          rw [rounds_succ]
          go_wp2
          refine bodyPost_ret (v := .tuple #[.agg #[.int .u8 x0, .int .u16 0], .int .i64 1, .int .i64 0]) (by simp (maxDischargeDepth := 9) [results, Tryz.results75, go_sem, k0, k1, f0, f1]) rfl ⟨?_, ?_⟩
          · rw [FIN.out, if_neg (by omega), if_neg (by omega), if_pos (by simp)]
          · repeat (first | exact Ext.refl _ | apply Ext.alloc | (refine Ext.setCell ?_ (by simp) _) | (refine Ext.trans ?_ (by assumption)))
        · have hc1' := hc 1 (by omega)
          have hl1 : (1 : Int) < (L : Int) := by omega
          have r1 := getD_range hR.out 1
          have fin2 := FIN.out
          generalize hx1 : b.getD 1 0 = x1 at *
          have FIN2 := Lib.hid fin2; clear fin2 hx1
          have ho := bor0 x1 r1.1 r1.2
          clear hz0 hc
          go_enter Tryz.func75, Tryz.ntmps75
          go_wp2_with (go_at_call 15; refine (size_any _ (by omega) (by omega) _).mono ?_; rw [HS.out]; rintro e w' ⟨rfl, hx⟩; have k0 := hx.block.1 0 (.int .u8 0) rfl; have k1 := hx.block.1 1 (.int .u16 0) rfl; have f0 := hx.block.2 0; have f1 := hx.block.2 1; have d0 := (((Ext.refl _).alloc _).trans hx).cell hc0; have d1 := (((Ext.refl _).alloc _).trans hx).cell hc1')
          refine wp_loop_rounds 2 ?_
          rw [rounds_succ]
          go_wp2
          go_still_tail 9, (by kernel_rfl)
          change wpList _ _ _ _ _ (World.drew _)
          go_wp2
          rw [rounds_succ]
          go_wp2
          refine bodyPost_ret (v := .tuple #[.agg #[.int .u8 x0, .int .u16 x1], .int .i64 2, .int .i64 0]) (by simp (maxDischargeDepth := 9) [results, Tryz.results75, go_sem, k0, k1, f0, f1]) rfl ⟨?_, ?_⟩
          · rw [FIN2.out, if_neg (by omega), if_neg (by omega), if_neg (by omega), if_pos (by simp)]
          · repeat (first | exact Ext.refl _ | apply Ext.alloc | apply Ext.drew | (refine Ext.setCell ?_ (by simp) _) | (refine Ext.trans ?_ (by assumption)))
        · have hc1' := hc 1 (by omega)
          have hc2' := hc 2 (by omega)
          have hl1 : (1 : Int) < (L : Int) := by omega
          have hl2 : (2 : Int) < (L : Int) := by omega
          have r1 := getD_range hR.out 1
          have r2 := getD_range hR.out 2
          have fin2 := FIN.out
          generalize hx1 : b.getD 1 0 = x1 at *
          generalize hx2 : b.getD 2 0 = x2 at *
          have FIN2 := Lib.hid fin2; clear fin2 hx1 hx2
          have ho := bor0 x2 r2.1 r2.2
          have ho2 := bor8 x2 x1 r2.1 r2.2 r1.1 r1.2
          clear hz0 hc
          go_enter Tryz.func75, Tryz.ntmps75
          go_wp2_with (go_at_call 15; refine (size_any _ (by omega) (by omega) _).mono ?_; rw [HS.out]; rintro e w' ⟨rfl, hx⟩; have k0 := hx.block.1 0 (.int .u8 0) rfl; have k1 := hx.block.1 1 (.int .u16 0) rfl; have f0 := hx.block.2 0; have f1 := hx.block.2 1; have d0 := (((Ext.refl _).alloc _).trans hx).cell hc0; have d1 := (((Ext.refl _).alloc _).trans hx).cell hc1'; have d2 := (((Ext.refl _).alloc _).trans hx).cell hc2')
          refine wp_loop_rounds 3 ?_
          rw [rounds_succ]
          go_wp2
          go_still_tail 9, (by kernel_rfl)
          change wpList _ _ _ _ _ (World.drew _)
          go_wp2
          have k0' := cell_set_ne (a := ⟨w.heap.size, 1, none⟩) (v := .int .u16 x2) k0 (by simp)
          have k1' := cell_set (v := .int .u16 x2) k1
          have f0' := frozen_set (a := ⟨w.heap.size, 1, none⟩) (v := .int .u16 x2) f0
          have f1' := frozen_set (a := ⟨w.heap.size, 1, none⟩) (v := .int .u16 x2) f1
          have d0' := cell_set_ne (a := ⟨w.heap.size, 1, none⟩) (v := .int .u16 x2) d0 (by simp)
          have d1' := cell_set_ne (a := ⟨w.heap.size, 1, none⟩) (v := .int .u16 x2) d1 (by simp)
          have hx2 : Ext w (w'.setCell ⟨w.heap.size, 1, none⟩ (.int .u16 x2)).drew := (((Ext.refl _).alloc _).trans hx).setCell (by simp) _ |>.drew
          generalize (w'.setCell ⟨w.heap.size, 1, none⟩ (.int .u16 x2)).drew = W2 at *
          clear k0 k1 f0 f1 d0 d1 hx
          rw [rounds_succ]
          go_wp2
          go_still_tail 9, (by kernel_rfl)
          change wpList _ _ _ _ _ (World.drew _)
          go_wp2
          rw [rounds_succ]
          go_wp2
          refine bodyPost_ret (v := .tuple #[.agg #[.int .u8 x0, .int .u16 (x2 * 256 + x1)], .int .i64 3, .int .i64 0]) (by simp (maxDischargeDepth := 9) [results, Tryz.results75, go_sem, k0', k1', f0', f1']) rfl ⟨?_, ?_⟩
          · rw [FIN2.out, if_neg (by omega), if_neg (by omega), if_neg (by omega), if_neg (by omega)]
          · repeat (first | exact Ext.refl _ | apply Ext.alloc | apply Ext.drew | (refine Ext.setCell ?_ (by simp) _) | (refine Ext.trans ?_ (by assumption)))
  · have hz : b.length = 0 := by omega
    have HZ := Lib.hid hz
    rw [hz]; clear hz h3 hc1 hp hr
    go_enter Tryz.func75, Tryz.ntmps75
    go_wp2
    refine bodyPost_ret (v := .tuple #[.agg #[.int .u8 0, .int .u16 0], .int .i64 0, .int .i64 2]) (by simp (maxDischargeDepth := 9) [results, Tryz.results75, go_sem]) rfl ⟨?_, ?_⟩
    · unfold readS; rw [if_pos HZ.out]
    · repeat (first | exact Ext.refl _ | apply Ext.alloc | apply Ext.drew | (refine Ext.setCell ?_ (by simp) _) | (refine Ext.trans ?_ (by assumption)))
end
end Go.Proofs.YtnklmehphmidhaaGreatDoor
