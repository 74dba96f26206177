/- line.right, on the forms of operands that there are. -/
import Derived.Test.YtnklmehphmidhaaGreatDoorRfb
namespace Go.Proofs.YtnklmehphmidhaaGreatDoor
open Go.RowKit
set_option maxRecDepth 100000
set_option maxHeartbeats 1000000
set_option linter.unusedSimpArgs false
set_option linter.unusedVariables false

theorem right37_word (d : Int) (op s : ByteArray) (hs : s.toList.isEmpty = false) (w : World) (hT : Tab w) :
    Calls Tryz.prog 37 #[.int .i64 d, .string op, .agg #[.string s, .string ⟨#[]⟩, .bool false, .bool false, .string ⟨#[]⟩, .int .u16 0, .string ⟨#[]⟩, .slice none 0 0]] w (RBool w (wordB d s)) := by
  have HT := Lib.hid hT; clear hT
  go_enter Tryz.func37, Tryz.ntmps37
  go_wp2_with (first
    | (go_at_call 57; refine (same_any ⟨#[]⟩ ⟨#[]⟩ 0 0 ⟨#[]⟩ ⟨#[]⟩ _).mono ?_; rw [show sameE ⟨#[]⟩ ⟨#[]⟩ 0 0 ⟨#[]⟩ ⟨#[]⟩ = true by decide +kernel]; rintro e w1 ⟨rfl, hx1⟩; have B0 := ((Blk.new w #[.int .i64 d] 3).alloc _).ext hx1; have B1 := (Blk.newAt _ (w.heap.size + 1) _ 41 (by simp)).ext hx1; have k0 := B0.cell; have k1 := B1.cell)
    | (go_at_call 58; refine (word58_any d s _ (HT.out.ext (((Ext.refl _).alloc _).alloc _ |>.trans hx1))).mono ?_; rintro e w2 ⟨rfl, hx2⟩))
  go_ret
  exact ⟨rfl, ((((Ext.refl _).alloc _).alloc _).trans hx1).trans hx2⟩

theorem right37_num0 (d n : Int) (mem : Bool) (op : ByteArray) (hm : mem = true) (hd : (d == 0) = true) (w : World) :
    Calls Tryz.prog 37 #[.int .i64 d, .string op, .agg #[.string ⟨#[]⟩, .string ⟨#[]⟩, .bool false, .bool mem, .string ⟨#[35]⟩, .int .u16 n, .string ⟨#[]⟩, .slice none 0 0]] w (RBool w false) := by
  subst hm
  have HS : Hid (sameE ⟨#[35]⟩ ⟨#[]⟩ n 0 ⟨#[]⟩ ⟨#[]⟩ = false) := Lib.hid (by unfold sameE; rw [show ((ByteArray.mk #[35]).toList == (ByteArray.mk #[]).toList) = false by decide +kernel]; rfl)
  go_enter Tryz.func37, Tryz.ntmps37
  go_wp2_with (go_at_call 57; refine (same_any ⟨#[35]⟩ ⟨#[]⟩ n 0 ⟨#[]⟩ ⟨#[]⟩ _).mono ?_; rw [HS.out]; rintro e w1 ⟨rfl, hx1⟩; have B0 := ((Blk.new w #[.int .i64 d] 3).alloc _).ext hx1; have B1 := (Blk.newAt _ (w.heap.size + 1) _ 41 (by simp)).ext hx1; have k0 := B0.cell; have k1 := B1.cell)
  go_ret
  exact ⟨rfl, (((Ext.refl _).alloc _).alloc _).trans hx1⟩
theorem right37_num1 (d n : Int) (mem : Bool) (op : ByteArray) (hm : mem = false ∨ (d == 0) = false) (w : World) (hT : Tab w) :
    Calls Tryz.prog 37 #[.int .i64 d, .string op, .agg #[.string ⟨#[]⟩, .string ⟨#[]⟩, .bool false, .bool mem, .string ⟨#[35]⟩, .int .u16 n, .string ⟨#[]⟩, .slice none 0 0]] w (RBool w true) := by
  have HS : Hid (sameE ⟨#[35]⟩ ⟨#[]⟩ n 0 ⟨#[]⟩ ⟨#[]⟩ = false) := Lib.hid (by unfold sameE; rw [show ((ByteArray.mk #[35]).toList == (ByteArray.mk #[]).toList) = false by decide +kernel]; rfl)
  have HT := Lib.hid hT; clear hT
  have hmk : ∀ (fn : Fn) (first cap : Array Value) (w : World), (Instr.makeFunc fn first cap).run Tryz.prog w = .ok (.func fn first cap) w := fun _ _ _ _ => rfl
  cases mem with
  | false =>
    clear hm
    go_enter Tryz.func37, Tryz.ntmps37
    go_wp2_with (first
      | (go_at_call 57; refine (same_any ⟨#[35]⟩ ⟨#[]⟩ n 0 ⟨#[]⟩ ⟨#[]⟩ _).mono ?_; rw [HS.out]; rintro e w1 ⟨rfl, hx1⟩; have B0 := ((Blk.new w #[.int .i64 d] 3).alloc _).ext hx1; have B1 := (Blk.newAt _ (w.heap.size + 1) _ 41 (by simp)).ext hx1; have k0 := B0.cell; have k1 := B1.cell)
      | (go_at_call 61; refine (right61_num n _).mono ?_; rintro e w2 ⟨rfl, hx2⟩; have k02 := (B0.ext hx2).cell; have k12 := (B1.ext hx2).cell)
      | (go_at_call 63; refine (names_num n _).mono ?_; rintro e w3 ⟨v3, rfl, hr3, hx3⟩; have HR := Lib.hid hr3; clear hr3; have k03 := ((B0.ext hx2).ext hx3).cell; have HC := Lib.hid (k03 0))
      | (go_at_call 62; refine (contains62_any d [] _ _ _ (HT.out.ext ((((Ext.refl _).alloc _).alloc _ |>.trans hx1).trans (hx2.trans hx3))) HC.out HR.out (by simp) (by simp)).mono ?_; rintro e w4 ⟨rfl, hx4⟩))
    go_ret
    exact ⟨rfl, (((((Ext.refl _).alloc _).alloc _ |>.trans hx1).trans hx2).trans hx3).trans hx4⟩
  | true =>
    have hd : (d == 0) = false := by simpa using hm
    clear hm
    go_enter Tryz.func37, Tryz.ntmps37
    go_wp2_with (first
      | (go_at_call 57; refine (same_any ⟨#[35]⟩ ⟨#[]⟩ n 0 ⟨#[]⟩ ⟨#[]⟩ _).mono ?_; rw [HS.out]; rintro e w1 ⟨rfl, hx1⟩; have B0 := ((Blk.new w #[.int .i64 d] 3).alloc _).ext hx1; have B1 := (Blk.newAt _ (w.heap.size + 1) _ 41 (by simp)).ext hx1; have k0 := B0.cell; have k1 := B1.cell)
      | (go_at_call 61; refine (right61_num n _).mono ?_; rintro e w2 ⟨rfl, hx2⟩; have k02 := (B0.ext hx2).cell; have k12 := (B1.ext hx2).cell)
      | (go_at_call 63; refine (names_num n _).mono ?_; rintro e w3 ⟨v3, rfl, hr3, hx3⟩; have HR := Lib.hid hr3; clear hr3; have k03 := ((B0.ext hx2).ext hx3).cell; have HC := Lib.hid (k03 0))
      | (go_at_call 62; refine (contains62_any d [] _ _ _ (HT.out.ext ((((Ext.refl _).alloc _).alloc _ |>.trans hx1).trans (hx2.trans hx3))) HC.out HR.out (by simp) (by simp)).mono ?_; rintro e w4 ⟨rfl, hx4⟩))
    go_ret
    exact ⟨rfl, (((((Ext.refl _).alloc _).alloc _ |>.trans hx1).trans hx2).trans hx3).trans hx4⟩
theorem right37_nam (d : Int) (op s : ByteArray) (h : LabN s) (w : World) (hT : Tab w) :
    Calls Tryz.prog 37 #[.int .i64 d, .string op, .agg #[.string ⟨#[]⟩, .string ⟨#[]⟩, .bool false, .bool false, .string ⟨#[110]⟩, .int .u16 0, .string s, .slice none 0 0]] w (RBool w true) := by
  have HS : Hid (sameE ⟨#[110]⟩ ⟨#[]⟩ 0 0 s ⟨#[]⟩ = false) := Lib.hid (by unfold sameE; rw [show ((ByteArray.mk #[110]).toList == (ByteArray.mk #[]).toList) = false by decide +kernel]; rfl)
  have HT := Lib.hid hT; clear hT
  have HL := Lib.hid h; clear h
  have hmk : ∀ (fn : Fn) (first cap : Array Value) (w : World), (Instr.makeFunc fn first cap).run Tryz.prog w = .ok (.func fn first cap) w := fun _ _ _ _ => rfl
  go_enter Tryz.func37, Tryz.ntmps37
  go_wp2_with (first
    | (go_at_call 57; refine (same_any ⟨#[110]⟩ ⟨#[]⟩ 0 0 s ⟨#[]⟩ _).mono ?_; rw [HS.out]; rintro e w1 ⟨rfl, hx1⟩; have B0 := ((Blk.new w #[.int .i64 d] 3).alloc _).ext hx1; have B1 := (Blk.newAt _ (w.heap.size + 1) _ 41 (by simp)).ext hx1; have k0 := B0.cell; have k1 := B1.cell)
    | (go_at_call 61; refine (right61_nam s HL.out _).mono ?_; rintro e w2 ⟨rfl, hx2⟩; have k02 := (B0.ext hx2).cell; have k12 := (B1.ext hx2).cell)
    | (go_at_call 63; refine (names_nam s _).mono ?_; rintro e w3 ⟨v3, rfl, hr3, hx3⟩; have HR := Lib.hid hr3; clear hr3; have k03 := ((B0.ext hx2).ext hx3).cell; have HC := Lib.hid (k03 0))
    | (go_at_call 62; refine (contains62_any d [s] _ _ _ (HT.out.ext ((((Ext.refl _).alloc _).alloc _ |>.trans hx1).trans (hx2.trans hx3))) HC.out HR.out (by simp) (by intro y hy; rw [List.mem_singleton.1 hy]; exact HL.out.pl d)).mono ?_; rintro e w4 ⟨rfl, hx4⟩))
  go_ret
  exact ⟨rfl, (((((Ext.refl _).alloc _).alloc _ |>.trans hx1).trans hx2).trans hx3).trans hx4⟩
end Go.Proofs.YtnklmehphmidhaaGreatDoor
