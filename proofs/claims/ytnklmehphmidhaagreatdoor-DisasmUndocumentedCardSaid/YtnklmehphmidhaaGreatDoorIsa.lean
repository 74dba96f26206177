/- isa80: the 8080's opcodes: what each function of the package computes. No condition but that a byte is one. -/
import Derived.Test.YtnklmehphmidhaaGreatDoorBase
namespace Go.Proofs.YtnklmehphmidhaaGreatDoor
open Go.RowKit
set_option maxRecDepth 100000
set_option maxHeartbeats 4000000

theorem form_any (w : World) (v : Value) : Calls Tryz.prog 66 #[v] w fun e w' => e = .returned v ∧ w = w' := by
  go_enter Tryz.func66, Tryz.ntmps66
  go_wp2
  go_ret
  exact ⟨rfl, rfl⟩

theorem pick_any (w : World) (i : Int) (v : Value) (l : List ByteArray) (hs : Strs w v l) (h0 : 0 ≤ i) (h1 : i < l.length) :
    Calls Tryz.prog 68 #[.int .u8 i, v] w fun e w' => e = .returned (.string (l.getD i.toNat ⟨#[]⟩)) ∧ w = w' := by
  obtain ⟨A, c, rfl, hc1, hc2, h3⟩ := hs
  obtain ⟨b, o, rfl, hlt, hc⟩ := h3 (by omega)
  obtain ⟨n, rfl⟩ := Int.eq_ofNat_of_zero_le h0
  have hx : w.cell? ⟨b, o + n, none⟩ = some (.string (l.getD n ⟨#[]⟩)) := hc n _ (by simp [List.getElem?_eq_getElem (show n < l.length by omega)])
  have h1' : n < l.length := by omega
  clear hc h3
  generalize hL : l.length = L at *
  generalize hS : l.getD n ⟨#[]⟩ = s at *
  have HL := Lib.hid hL; clear hL
  have HS := Lib.hid hS; clear hS
  go_enter Tryz.func68, Tryz.ntmps68
  go_wp2
  go_ret
  exact ⟨by rw [← HS.out]; simp, rfl⟩

theorem pick8 (w : World) (i : Int) (k : Nat) (a b c d e f g h : ByteArray) (hk : k = w.heap.size) (h0 : 0 ≤ i) (h1 : i < 8) :
    Calls Tryz.prog 68 #[.int .u8 i, .slice (some ⟨k, 0, none⟩) 8 8] (w.alloc (.cells #[.string a, .string b, .string c, .string d, .string e, .string f, .string g, .string h] 9)) fun r w' => r = .returned (.string ([a, b, c, d, e, f, g, h].getD i.toNat ⟨#[]⟩)) ∧ w.alloc (.cells #[.string a, .string b, .string c, .string d, .string e, .string f, .string g, .string h] 9) = w' :=
  hk ▸ pick_any _ _ _ _ (Strs.mk8 ..) h0 (by show _ < (8 : Int); omega)
theorem pick4 (w : World) (i : Int) (k : Nat) (a b c d : ByteArray) (hk : k = w.heap.size) (h0 : 0 ≤ i) (h1 : i < 4) :
    Calls Tryz.prog 68 #[.int .u8 i, .slice (some ⟨k, 0, none⟩) 4 4] (w.alloc (.cells #[.string a, .string b, .string c, .string d] 9)) fun r w' => r = .returned (.string ([a, b, c, d].getD i.toNat ⟨#[]⟩)) ∧ w.alloc (.cells #[.string a, .string b, .string c, .string d] 9) = w' :=
  hk ▸ pick_any _ _ _ _ (Strs.mk4 ..) h0 (by show _ < (4 : Int); omega)

theorem pick2 (w : World) (i : Int) (k : Nat) (a b : ByteArray) (hk : k = w.heap.size) (h0 : 0 ≤ i) (h1 : i < 2) :
    Calls Tryz.prog 68 #[.int .u8 i, .slice (some ⟨k, 0, none⟩) 2 2] (w.alloc (.cells #[.string a, .string b] 9)) fun r w' => r = .returned (.string ([a, b].getD i.toNat ⟨#[]⟩)) ∧ w.alloc (.cells #[.string a, .string b] 9) = w' :=
  hk ▸ pick_any _ _ _ _ (Strs.mk2 ..) h0 (by show _ < (2 : Int); omega)

def regL : List ByteArray := [⟨#[66]⟩, ⟨#[67]⟩, ⟨#[68]⟩, ⟨#[69]⟩, ⟨#[72]⟩, ⟨#[76]⟩, ⟨#[77]⟩, ⟨#[65]⟩]
def regS (i : Int) : ByteArray := regL.getD (i % 8).toNat ⟨#[]⟩
theorem reg_any (w : World) (i : Int) (h0 : 0 ≤ i) (h1 : i ≤ 255) : Calls Tryz.prog 67 #[.int .u8 i] w (RStr w (regS i)) := by
  go_enter Tryz.func67, Tryz.ntmps67
  go_wp2_with (go_at_call 68; (with_reducible refine (pick8 _ _ _ _ _ _ _ _ _ _ _ (by simp) (by omega) (by omega)).mono ?_); rintro e w' ⟨rfl, rfl⟩)
  go_ret
  exact ⟨rfl, (Ext.refl _).alloc _⟩

def pairL : List ByteArray := [⟨#[66]⟩, ⟨#[68]⟩, ⟨#[72]⟩, ⟨#[83, 80]⟩]
def pairS (i : Int) : ByteArray := pairL.getD (i % 4).toNat ⟨#[]⟩
theorem pair_any (w : World) (i : Int) (h0 : 0 ≤ i) (h1 : i ≤ 255) : Calls Tryz.prog 112 #[.int .u8 i] w (RStr w (pairS i)) := by
  have hb3 := band3 i h0 (by omega)
  go_enter Tryz.func112, Tryz.ntmps112
  go_wp2_with (go_at_call 68; (with_reducible refine (pick4 _ _ _ _ _ _ _ (by simp) (by omega) (by omega)).mono ?_); rintro e w' ⟨rfl, rfl⟩)
  go_ret
  exact ⟨rfl, (Ext.refl _).alloc _⟩

def condL : List ByteArray := [⟨#[78, 90]⟩, ⟨#[90]⟩, ⟨#[78, 67]⟩, ⟨#[67]⟩, ⟨#[80, 79]⟩, ⟨#[80, 69]⟩, ⟨#[80]⟩, ⟨#[77]⟩]
def condS (i : Int) : ByteArray := condL.getD (i % 8).toNat ⟨#[]⟩
theorem cond_any (w : World) (i : Int) (h0 : 0 ≤ i) (h1 : i ≤ 255) : Calls Tryz.prog 113 #[.int .u8 i] w (RStr w (condS i)) := by
  go_enter Tryz.func113, Tryz.ntmps113
  go_wp2_with (go_at_call 68; (with_reducible refine (pick8 _ _ _ _ _ _ _ _ _ _ _ (by simp) (by omega) (by omega)).mono ?_); rintro e w' ⟨rfl, rfl⟩)
  go_ret
  exact ⟨rfl, (Ext.refl _).alloc _⟩


def lowS (op : Int) : List ByteArray :=
  if (op % 8 == 4) = true then [⟨#[73, 78, 82]⟩, regS (op / 8)]
  else if (op % 8 == 5) = true then [⟨#[68, 67, 82]⟩, regS (op / 8)]
  else if (op % 8 == 6) = true then [⟨#[77, 86, 73]⟩, regS (op / 8), ⟨#[100, 56]⟩]
  else if (op % 8 == 7) = true then [[⟨#[82, 76, 67]⟩, ⟨#[82, 82, 67]⟩, ⟨#[82, 65, 76]⟩, ⟨#[82, 65, 82]⟩, ⟨#[68, 65, 65]⟩, ⟨#[67, 77, 65]⟩, ⟨#[83, 84, 67]⟩, ⟨#[67, 77, 67]⟩].getD (op / 8).toNat ⟨#[]⟩]
  else if (op % 16 == 1) = true then [⟨#[76, 88, 73]⟩, pairS (op / 16), ⟨#[100, 49, 54]⟩]
  else if (op % 16 == 3) = true then [⟨#[73, 78, 88]⟩, pairS (op / 16)]
  else if (op % 16 == 9) = true then [⟨#[68, 65, 68]⟩, pairS (op / 16)]
  else if (op % 16 == 11) = true then [⟨#[68, 67, 88]⟩, pairS (op / 16)]
  else if (op == 0) = true then [⟨#[78, 79, 80]⟩]
  else if (op == 2) = true ∨ (op == 18) = true then [⟨#[83, 84, 65, 88]⟩, pairS (op / 16)]
  else if (op == 10) = true ∨ (op == 26) = true then [⟨#[76, 68, 65, 88]⟩, pairS (op / 16)]
  else if (op == 34) = true ∨ (op == 42) = true ∨ (op == 50) = true ∨ (op == 58) = true then [[⟨#[83, 72, 76, 68]⟩, ⟨#[76, 72, 76, 68]⟩, ⟨#[83, 84, 65]⟩, ⟨#[76, 68, 65]⟩].getD (op / 8 % 4).toNat ⟨#[]⟩, ⟨#[100, 49, 54]⟩]
  else []
theorem low_any (op : Int) (h0 : 0 ≤ op) (h1 : op < 64) (w : World) : Calls Tryz.prog 65 #[.int .u8 op] w (RStrs w (lowS op)) := by
  have hb3 := band3 (op / 8) (by omega) (by omega)
  go_enter Tryz.func65, Tryz.ntmps65
  go_wp2_with (first
    | (go_at_call 66; (with_reducible refine (form_any _ _).mono ?_); rintro e w' ⟨rfl, rfl⟩)
    | (go_at_call 67; (with_reducible refine (reg_any _ _ (by omega) (by omega)).mono ?_); rintro e w' ⟨rfl, hx⟩)
    | (go_at_call 112; (with_reducible refine (pair_any _ _ (by omega) (by omega)).mono ?_); rintro e w' ⟨rfl, hx⟩)
    | (go_at_call 68; (with_reducible refine (pick8 _ _ _ _ _ _ _ _ _ _ _ (by simp) (by omega) (by omega)).mono ?_); rintro e w' ⟨rfl, rfl⟩)
    | (go_at_call 68; (with_reducible refine (pick4 _ _ _ _ _ _ _ (by simp) (by omega) (by omega)).mono ?_); rintro e w' ⟨rfl, rfl⟩))
  all_goals go_ret
  all_goals first
    | (refine RStrs.m0 (Ext.refl _) ?_; simp [lowS, *]; done)
    | (refine RStrs.m1 (by simp) ?_ ?_; (repeat (first | exact Ext.refl _ | assumption | apply Ext.alloc)); simp [lowS, *]; done)
    | (refine RStrs.m2 (by simp) ?_ ?_; (repeat (first | exact Ext.refl _ | assumption | apply Ext.alloc)); simp [lowS, *]; done)
    | (refine RStrs.m3 (by simp) ?_ ?_; (repeat (first | exact Ext.refl _ | assumption | apply Ext.alloc)); simp [lowS, *]; done)
end Go.Proofs.YtnklmehphmidhaaGreatDoor
