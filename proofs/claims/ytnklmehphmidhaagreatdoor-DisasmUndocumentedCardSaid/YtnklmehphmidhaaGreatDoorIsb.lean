/- isa80, further. -/
import Derived.Test.YtnklmehphmidhaaGreatDoorIsa
namespace Go.Proofs.YtnklmehphmidhaaGreatDoor
open Go.RowKit
set_option maxRecDepth 100000
set_option maxHeartbeats 4000000

def highS (op : Int) : List ByteArray :=
  if (op % 8 == 0) = true then [(⟨#[82]⟩ : ByteArray) ++ condS (op / 8 % 8)]
  else if (op % 8 == 2) = true then [(⟨#[74]⟩ : ByteArray) ++ condS (op / 8 % 8), ⟨#[100, 49, 54]⟩]
  else if (op % 8 == 4) = true then [(⟨#[67]⟩ : ByteArray) ++ condS (op / 8 % 8), ⟨#[100, 49, 54]⟩]
  else if (op % 8 == 6) = true then [[⟨#[65, 68, 73]⟩, ⟨#[65, 67, 73]⟩, ⟨#[83, 85, 73]⟩, ⟨#[83, 66, 73]⟩, ⟨#[65, 78, 73]⟩, ⟨#[88, 82, 73]⟩, ⟨#[79, 82, 73]⟩, ⟨#[67, 80, 73]⟩].getD (op / 8 % 8).toNat ⟨#[]⟩, ⟨#[100, 56]⟩]
  else if (op % 8 == 7) = true then [⟨#[82, 83, 84]⟩, strOfNums [48 + op / 8 % 8]]
  else if (op == 193) = true ∨ (op == 209) = true ∨ (op == 225) = true ∨ (op == 241) = true then [⟨#[80, 79, 80]⟩, [⟨#[66]⟩, ⟨#[68]⟩, ⟨#[72]⟩, ⟨#[80, 83, 87]⟩].getD (op / 16 % 4).toNat ⟨#[]⟩]
  else if (op == 197) = true ∨ (op == 213) = true ∨ (op == 229) = true ∨ (op == 245) = true then [⟨#[80, 85, 83, 72]⟩, [⟨#[66]⟩, ⟨#[68]⟩, ⟨#[72]⟩, ⟨#[80, 83, 87]⟩].getD (op / 16 % 4).toNat ⟨#[]⟩]
  else if (op == 201) = true ∨ (op == 233) = true ∨ (op == 249) = true then [[⟨#[82, 69, 84]⟩, ⟨#[45]⟩, ⟨#[80, 67, 72, 76]⟩, ⟨#[83, 80, 72, 76]⟩].getD (op / 16 % 4).toNat ⟨#[]⟩]
  else if (op == 195) = true then [⟨#[74, 77, 80]⟩, ⟨#[100, 49, 54]⟩]
  else if (op == 205) = true then [⟨#[67, 65, 76, 76]⟩, ⟨#[100, 49, 54]⟩]
  else if (op == 211) = true ∨ (op == 219) = true then [[⟨#[79, 85, 84]⟩, ⟨#[73, 78]⟩].getD (op / 8 % 2).toNat ⟨#[]⟩, ⟨#[100, 56]⟩]
  else if (op == 227) = true ∨ (op == 235) = true ∨ (op == 243) = true ∨ (op == 251) = true then [[⟨#[88, 84, 72, 76]⟩, ⟨#[88, 67, 72, 71]⟩, ⟨#[68, 73]⟩, ⟨#[69, 73]⟩].getD (op / 8 % 4).toNat ⟨#[]⟩]
  else []
theorem condS_size (i : Int) : (condS i).size ≤ 2 := by
  have h : ∀ k : Nat, k < 8 → (condL.getD k ⟨#[]⟩).size ≤ 2 := by decide
  exact h _ (by omega)
theorem high_any (op : Int) (h0 : 0 ≤ op) (h1 : op < 256) (w : World) : Calls Tryz.prog 69 #[.int .u8 op] w (RStrs w (highS op)) := by
  have hb3 := band3 (op / 16) (by omega) (by omega)
  have hb4 := band3 (op / 8 % 8) (by omega) (by omega)
  have hb1 := band1 (op / 8 % 8) (by omega) (by omega)
  have hcz := condS_size (op / 8 % 8)
  have hcv := conv1
  go_enter Tryz.func69, Tryz.ntmps69
  go_wp2_with (first
    | (go_at_call 66; (with_reducible refine (form_any _ _).mono ?_); rintro e w' ⟨rfl, rfl⟩)
    | (go_at_call 113; (with_reducible refine (cond_any _ _ (by omega) (by omega)).mono ?_); rintro e w' ⟨rfl, hx⟩)
    | (go_at_call 68; (with_reducible refine (pick8 _ _ _ _ _ _ _ _ _ _ _ (by simp) (by omega) (by omega)).mono ?_); rintro e w' ⟨rfl, rfl⟩)
    | (go_at_call 68; (with_reducible refine (pick4 _ _ _ _ _ _ _ (by simp) (by omega) (by omega)).mono ?_); rintro e w' ⟨rfl, rfl⟩)
    | (go_at_call 68; (with_reducible refine (pick2 _ _ _ _ _ (by simp) (by omega) (by omega)).mono ?_); rintro e w' ⟨rfl, rfl⟩))
  all_goals try go_ret
  all_goals clear hcv
  all_goals first
    | (refine RStrs.m0 ?_ ?_; (repeat (first | exact Ext.refl _ | assumption | apply Ext.alloc)); simp [highS, *]; done)
    | (refine RStrs.m1 (by simp) ?_ ?_; (repeat (first | exact Ext.refl _ | assumption | apply Ext.alloc | (refine Ext.trans ?_ (by assumption)))); simp [highS, *]; done)
    | (refine RStrs.m2 (by simp) ?_ ?_; (repeat (first | exact Ext.refl _ | assumption | apply Ext.alloc | (refine Ext.trans ?_ (by assumption)))); simp [highS, *]; done)
end Go.Proofs.YtnklmehphmidhaaGreatDoor
