/- expr.Show, line.show, on the forms of operands that there are. -/
import Derived.Test.YtnklmehphmidhaaGreatDoorRgb
namespace Go.Proofs.YtnklmehphmidhaaGreatDoor
open Go.RowKit
set_option maxRecDepth 100000
set_option maxHeartbeats 1000000
set_option linter.unusedSimpArgs false
set_option linter.unusedVariables false

theorem show135_num (n m : Int) (h0 : 0 ≤ n) (h1 : n ≤ 65535) (w : World) : Calls Tryz.prog 135 #[.agg #[.string ⟨#[35]⟩, .int .u16 n, .string ⟨#[]⟩, .slice none 0 0], .int .i64 m] w (RStr w (showN n)) := by
  go_enter Tryz.func135, Tryz.ntmps135
  go_wp2_with (first
    | (go_at_call 150; refine (binds_num _).mono ?_; rintro e w1 ⟨rfl, rfl⟩)
    | (go_at_call 174; refine (shownum_any n h0 h1 _).mono ?_; rintro e w1 ⟨rfl, hx1⟩))
  go_ret
  exact ⟨rfl, ((Ext.refl _).alloc _).trans hx1⟩
theorem show135_nam (s : ByteArray) (m : Int) (w : World) : Calls Tryz.prog 135 #[.agg #[.string ⟨#[110]⟩, .int .u16 0, .string s, .slice none 0 0], .int .i64 m] w (RStr w s) := by
  go_enter Tryz.func135, Tryz.ntmps135
  go_wp2_with (go_at_call 150; refine (binds_nam _).mono ?_; rintro e w1 ⟨rfl, rfl⟩)
  go_ret
  exact ⟨rfl, (Ext.refl _).alloc _⟩
theorem show92_num (n : Int) (h0 : 0 ≤ n) (h1 : n ≤ 65535) (w : World) : Calls Tryz.prog 92 #[.agg #[.string ⟨#[35]⟩, .int .u16 n, .string ⟨#[]⟩, .slice none 0 0]] w fun e w' => e = .returned (.tuple #[.string (showN n), .int .i64 0]) ∧ Ext w w' := by
  go_enter Tryz.func92, Tryz.ntmps92
  go_wp2_with (first
    | (go_at_call 61; refine (right61_num n _).mono ?_; rintro e w1 ⟨rfl, hx1⟩; have B0 := (Blk.new w _ 39).ext hx1; have k0 := B0.cell)
    | (go_at_call 135; refine (show135_num n 1 h0 h1 _).mono ?_; rintro e w2 ⟨rfl, hx2⟩))
  go_ret2
  exact ⟨rfl, (((Ext.refl _).alloc _).trans hx1).trans hx2⟩
theorem show92_nam (s : ByteArray) (h : LabN s) (w : World) : Calls Tryz.prog 92 #[.agg #[.string ⟨#[110]⟩, .int .u16 0, .string s, .slice none 0 0]] w fun e w' => e = .returned (.tuple #[.string s, .int .i64 0]) ∧ Ext w w' := by
  have H := Lib.hid h; clear h
  go_enter Tryz.func92, Tryz.ntmps92
  go_wp2_with (first
    | (go_at_call 61; refine (right61_nam s H.out _).mono ?_; rintro e w1 ⟨rfl, hx1⟩; have B0 := (Blk.new w _ 39).ext hx1; have k0 := B0.cell)
    | (go_at_call 135; refine (show135_nam s 1 _).mono ?_; rintro e w2 ⟨rfl, hx2⟩))
  go_ret2
  exact ⟨rfl, (((Ext.refl _).alloc _).trans hx1).trans hx2⟩

/-- An operand's text. -/
def argT (d : Int) (a : AR) : ByteArray :=
  if a.word.data.isEmpty = true then
    (if a.mem = true then (if (d == 2) = true then ⟨#[91] ++ (showN a.n).data ++ #[93]⟩ else ⟨#[40] ++ (showN a.n).data ++ #[41]⟩)
     else if isS a.op [35] = true then showN a.n else a.name)
  else a.word

theorem show47_word (d : Int) (s : ByteArray) (hs : s.toList.isEmpty = false) (w : World) : Calls Tryz.prog 47 #[.int .i64 d, .agg #[.string s, .string ⟨#[]⟩, .bool false, .bool false, .string ⟨#[]⟩, .int .u16 0, .string ⟨#[]⟩, .slice none 0 0]] w (RStr w s) := by
  go_enter Tryz.func47, Tryz.ntmps47
  go_wp2
  go_ret
  exact ⟨rfl, (Ext.refl _).alloc _⟩
theorem show47_nam (d : Int) (s : ByteArray) (h : LabN s) (w : World) : Calls Tryz.prog 47 #[.int .i64 d, .agg #[.string ⟨#[]⟩, .string ⟨#[]⟩, .bool false, .bool false, .string ⟨#[110]⟩, .int .u16 0, .string s, .slice none 0 0]] w (RStr w s) := by
  have H := Lib.hid h; clear h
  go_enter Tryz.func47, Tryz.ntmps47
  go_wp2_with (go_at_call 92; refine (show92_nam s H.out _).mono ?_; rintro e w1 ⟨rfl, hx1⟩; have B0 := (Blk.new w _ 41).ext hx1; have k0 := B0.cell)
  go_ret
  exact ⟨rfl, ((Ext.refl _).alloc _).trans hx1⟩
theorem showN_size (n : Int) : (showN n).size ≤ 7 := by
  unfold showN
  rw [strOfNums_size]
  unfold showL
  split
  · simp
  · have : ∀ f n, (hexLow f n).length ≤ f := by
      intro f
      induction f with
      | zero => intro n; simp [hexLow]
      | succ f ih => intro n; simp only [hexLow]; split
                     · simp
                     · simp [ih]
    have h4 := this 4 n
    rw [List.length_reverse, List.length_append]
    split <;> simp <;> omega
theorem cat3 (a b c : ByteArray) : a ++ b ++ c = ⟨a.data ++ b.data ++ c.data⟩ := by
  apply ByteArray.ext
  simp
theorem show47_num (d n : Int) (mem : Bool) (h0 : 0 ≤ n) (h1 : n ≤ 65535) (w : World) : Calls Tryz.prog 47 #[.int .i64 d, .agg #[.string ⟨#[]⟩, .string ⟨#[]⟩, .bool false, .bool mem, .string ⟨#[35]⟩, .int .u16 n, .string ⟨#[]⟩, .slice none 0 0]] w (RStr w (argT d (numA mem n))) := by
  have hz := showN_size n
  have HS := Lib.hid (show showN n = showN n from rfl)
  cases mem with
  | false =>
    have HA : Hid (argT d (numA false n) = showN n) := Lib.hid rfl
    go_enter Tryz.func47, Tryz.ntmps47
    go_wp2_with (go_at_call 92; refine (show92_num n h0 h1 _).mono ?_; rintro e w1 ⟨rfl, hx1⟩; have B0 := (Blk.new w _ 41).ext hx1; have k0 := B0.cell)
    go_ret
    exact ⟨ret_str HA.out.symm, ((Ext.refl _).alloc _).trans hx1⟩
  | true =>
    rcases Bool.eq_false_or_eq_true (d == 2) with hd | hd
    · have HA : Hid (argT d (numA true n) = ⟨#[91] ++ (showN n).data ++ #[93]⟩) := Lib.hid (show (if (d == 2) = true then _ else _) = _ from if_pos hd)
      go_enter Tryz.func47, Tryz.ntmps47
      go_wp2_with (go_at_call 92; refine (show92_num n h0 h1 _).mono ?_; rintro e w1 ⟨rfl, hx1⟩; have B0 := (Blk.new w _ 41).ext hx1; have k0 := B0.cell)
      go_ret
      exact ⟨ret_str ((cat3 _ _ _).trans HA.out.symm), ((Ext.refl _).alloc _).trans hx1⟩
    · have HA : Hid (argT d (numA true n) = ⟨#[40] ++ (showN n).data ++ #[41]⟩) := Lib.hid (show (if (d == 2) = true then _ else _) = _ from if_neg (by rw [hd]; simp))
      go_enter Tryz.func47, Tryz.ntmps47
      go_wp2_with (go_at_call 92; refine (show92_num n h0 h1 _).mono ?_; rintro e w1 ⟨rfl, hx1⟩; have B0 := (Blk.new w _ 41).ext hx1; have k0 := B0.cell)
      go_ret
      exact ⟨ret_str ((cat3 _ _ _).trans HA.out.symm), ((Ext.refl _).alloc _).trans hx1⟩

theorem show47_any (d : Int) (a : AR) (h : ARF d a) (hn : 0 ≤ a.n ∧ a.n ≤ 65535) (w : World) : Calls Tryz.prog 47 #[.int .i64 d, .agg #[.string a.word, .string ⟨#[]⟩, .bool false, .bool a.mem, .string a.op, .int .u16 a.n, .string a.name, .slice none 0 0]] w (RStr w (argT d a)) := by
  rcases h with ⟨s, hs, hw, rfl⟩ | ⟨m, n, hm, rfl⟩ | ⟨s, hs, rfl⟩
  · have hA : argT d (wordA s) = s := by
      show (if s.data.isEmpty = true then _ else s) = s
      rw [if_neg]
      intro e
      rw [ByteArray.toList_eq] at hs
      rw [Array.isEmpty_iff] at e
      rw [e] at hs
      cases hs
    rw [hA]
    exact show47_word d s hs w
  · exact show47_num d n m hn.1 hn.2 w
  · exact show47_nam d s hs w
end Go.Proofs.YtnklmehphmidhaaGreatDoor
