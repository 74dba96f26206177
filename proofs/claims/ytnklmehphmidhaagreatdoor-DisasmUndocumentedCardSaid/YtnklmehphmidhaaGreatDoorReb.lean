/- zilog.Reserved. -/
import Derived.Test.YtnklmehphmidhaaGreatDoorRea
namespace Go.Proofs.YtnklmehphmidhaaGreatDoor
open Go.RowKit
set_option maxRecDepth 100000
set_option maxHeartbeats 4000000
set_option linter.unusedSimpArgs false
set_option linter.unusedVariables false

theorem load125 {w : World} {g : Nat} {c0 : Value} (h : Blk w g #[c0]) : (loadVar 125 ⟨g, 0, none⟩).run Tryz.prog w = .ok (.agg #[c0]) w := by
  have hc := h.cell
  simp [go_sem, hc]

theorem fields_any (j : List UInt8) (w : World) (hT : Tab w) (hsz : j.length ≤ 1000) (hascii : ∀ b ∈ j, b.toNat < 128) (F : List (List UInt8)) (hF : Lib.fields j = F) (hF2 : F.length ≤ 1000) :
    Calls Tryz.prog 145 #[.string ⟨j.toArray⟩] w fun e w' => ∃ A c, e = .returned (.slice A (F.map fun l => (⟨l.toArray⟩ : ByteArray)).length c) ∧ Strs w' (.slice A (F.map fun l => (⟨l.toArray⟩ : ByteArray)).length c) (F.map fun l => ⟨l.toArray⟩) ∧ Ext w w' := by
  refine (Tryz.strings_Fields ⟨j.toArray⟩ w (by have : (ByteArray.mk j.toArray).size = j.length := by rfl
                                                omega) (fun i x hx => hascii x (List.mem_of_getElem? hx)) hT).mono ?_
  rintro e w' ⟨rfl, rfl⟩
  rw [show (ByteArray.mk j.toArray).data.toList = j from rfl, hF]
  refine ⟨some ⟨w.heap.size, 0, none⟩, F.length, by rw [List.length_map], ?_, (Ext.refl _).alloc _⟩
  have := Strs.alloc w (F.map fun l => (⟨l.toArray⟩ : ByteArray)) (by simp; omega) 9 (F.map fun l => Value.string ⟨l.toArray⟩).toArray (by rw [List.map_map]; rfl) F.length (by simp)
  rw [List.length_map]
  exact this

theorem of_any (l : List ByteArray) (v : Value) (w : World) (hT : Tab w) (hs : Strs w v l) (h0 : 0 < l.length) (j : List UInt8) (hj : Lib.join (l.map (·.data.toList)) [32] = j) (hsz : j.length ≤ 1000) (hascii : ∀ b ∈ j, b.toNat < 128) (F : List (List UInt8)) (hF : Lib.fields j = F) (hF2 : F.length ≤ 1000) (R : List ByteArray) (hR : F.map (fun l => (⟨l.toArray⟩ : ByteArray)) = R) :
    Calls Tryz.prog 103 #[v] w fun e w' => ∃ v', e = .returned (.agg #[v']) ∧ Strs w' v' R ∧ Ext w w' := by
  subst hR
  obtain ⟨A, c, rfl, hc, hc2, hcell⟩ := hs
  obtain ⟨b, o, rfl, hb, hcell⟩ := hcell h0
  have HJ := Lib.hid (Tryz.strings_Join b o c l ⟨#[32]⟩ (w.alloc (.cells #[.slice none 0 0] 125)) (fun j x hx => ((Ext.refl w).alloc _).cell (hcell j x hx)) (by simp; omega) (by omega) hc (by show (Lib.join _ [32]).length ≤ _; rw [hj]; omega))
  have HJ2 := Lib.hid hj
  have HF := Lib.hid hF
  have HC := Lib.hid hcell
  clear hj hF hcell
  have HA := Lib.hid hascii; clear hascii
  have HT := Lib.hid hT; clear hT
  go_enter Tryz.func103, Tryz.ntmps103
  go_wp2_with (first
    | (go_at_call 48; refine HJ.out.mono ?_; rintro e w1 ⟨rfl, hx1⟩; rw [show (ByteArray.mk #[32]).data.toList = [32] from rfl, HJ2.out]; have hB1 := (Blk.new w #[.slice none 0 0] 125).ext hx1)
    | (go_at_call 145; refine (fields_any j _ (HT.out.ext (((Ext.refl _).alloc _).trans hx1)) hsz HA.out F HF.out hF2).mono ?_; rintro e w2 ⟨A2, c2, rfl, hs2, hx2⟩; have hB2 := hB1.ext hx2; have k := hB2.cell; have f := hB2.frozen; have HS2 := Lib.hid hs2; clear hs2))
  refine bodyPost_ret (res1 rfl _ _ _ w.heap.size _ rfl (load125 (hB2.put 0 _))) rfl ⟨_, rfl, ?_, ?_⟩
  · have hs3 := HS2.out
    rw [List.length_map] at hs3
    obtain ⟨A3, c3, hv, h1, h2, h3⟩ := hs3
    refine ⟨A3, c3, hv, h1, h2, fun hp => ?_⟩
    obtain ⟨b4, o4, h4, h5, h6⟩ := h3 hp
    refine ⟨b4, o4, h4, by simpa using h5, fun j x hx => ?_⟩
    have hne : b4 ≠ w.heap.size := by
      rintro rfl
      have h7 := h6 0 ((F.map fun l => (⟨l.toArray⟩ : ByteArray))[0]'hp) (List.getElem?_eq_getElem hp)
      rw [hB2.cell] at h7
      rcases o4 with _ | o4
      · simp at h7
      · simp at h7
    rw [World.cell?_setCell_other _ _ _ _ (by intro e; injection e with e1 e2; exact hne e1.symm)]
    exact h6 j x hx
  · exact ((((Ext.refl w).alloc _).trans hx1).trans hx2).setCell (by simp) _

/-- The words of a dialect. -/
def resL (d : Int) : List ByteArray :=
  if d = 0 then [⟨#[79, 82]⟩, ⟨#[88, 79, 82]⟩, ⟨#[65, 78, 68]⟩, ⟨#[78, 79, 84]⟩, ⟨#[77, 79, 68]⟩, ⟨#[83, 72, 76]⟩, ⟨#[83, 72, 82]⟩, ⟨#[65]⟩, ⟨#[66]⟩, ⟨#[67]⟩, ⟨#[68]⟩, ⟨#[69]⟩, ⟨#[72]⟩, ⟨#[76]⟩, ⟨#[77]⟩, ⟨#[83, 80]⟩, ⟨#[80, 83, 87]⟩]
  else if d = 1 then [⟨#[79, 82]⟩, ⟨#[88, 79, 82]⟩, ⟨#[65, 78, 68]⟩, ⟨#[78, 79, 84]⟩, ⟨#[77, 79, 68]⟩, ⟨#[83, 72, 76]⟩, ⟨#[83, 72, 82]⟩, ⟨#[65]⟩, ⟨#[66]⟩, ⟨#[67]⟩, ⟨#[68]⟩, ⟨#[69]⟩, ⟨#[72]⟩, ⟨#[76]⟩, ⟨#[65, 70]⟩, ⟨#[66, 67]⟩, ⟨#[68, 69]⟩, ⟨#[72, 76]⟩, ⟨#[83, 80]⟩, ⟨#[78, 90]⟩, ⟨#[90]⟩, ⟨#[78, 67]⟩, ⟨#[80, 79]⟩, ⟨#[80, 69]⟩, ⟨#[80]⟩, ⟨#[77]⟩]
  else if d = 2 then [⟨#[79, 82]⟩, ⟨#[88, 79, 82]⟩, ⟨#[65, 78, 68]⟩, ⟨#[78, 79, 84]⟩, ⟨#[77, 79, 68]⟩, ⟨#[83, 72, 76]⟩, ⟨#[83, 72, 82]⟩, ⟨#[65, 76]⟩, ⟨#[67, 76]⟩, ⟨#[68, 76]⟩, ⟨#[66, 76]⟩, ⟨#[65, 72]⟩, ⟨#[67, 72]⟩, ⟨#[68, 72]⟩, ⟨#[66, 72]⟩, ⟨#[65, 88]⟩, ⟨#[67, 88]⟩, ⟨#[68, 88]⟩, ⟨#[66, 88]⟩, ⟨#[83, 80]⟩, ⟨#[66, 80]⟩, ⟨#[83, 73]⟩, ⟨#[68, 73]⟩]
  else []
def t0L : List ByteArray := [⟨#[79, 82, 32, 88, 79, 82, 32, 65, 78, 68, 32, 78, 79, 84, 32, 77, 79, 68, 32, 83, 72, 76, 32, 83, 72, 82]⟩, ⟨#[65, 32, 66, 32, 67, 32, 68, 32, 69, 32, 72, 32, 76, 32, 77, 32, 83, 80, 32, 80, 83, 87]⟩]
def t1L : List ByteArray := [⟨#[79, 82, 32, 88, 79, 82, 32, 65, 78, 68, 32, 78, 79, 84, 32, 77, 79, 68, 32, 83, 72, 76, 32, 83, 72, 82]⟩, ⟨#[65, 32, 66, 32, 67, 32, 68, 32, 69, 32, 72, 32, 76, 32, 65, 70, 32, 66, 67, 32, 68, 69, 32, 72, 76, 32, 83, 80]⟩, ⟨#[78, 90, 32, 90, 32, 78, 67, 32, 80, 79, 32, 80, 69, 32, 80, 32, 77]⟩]
def t2L : List ByteArray := [⟨#[79, 82, 32, 88, 79, 82, 32, 65, 78, 68, 32, 78, 79, 84, 32, 77, 79, 68, 32, 83, 72, 76, 32, 83, 72, 82]⟩, ⟨#[65, 76, 32, 67, 76, 32, 68, 76, 32, 66, 76, 32, 65, 72, 32, 67, 72, 32, 68, 72, 32, 66, 72]⟩, ⟨#[65, 88, 32, 67, 88, 32, 68, 88, 32, 66, 88, 32, 83, 80, 32, 66, 80, 32, 83, 73, 32, 68, 73]⟩]
theorem of0_any (v : Value) (w : World) (hT : Tab w) (hs : Strs w v t0L) : Calls Tryz.prog 103 #[v] w fun e w' => ∃ v', e = .returned (.agg #[v']) ∧ Strs w' v' (resL 0) ∧ Ext w w' :=
  of_any t0L v w hT hs (by decide) _ rfl (by decide +kernel) (by decide +kernel) ((resL 0).map (·.data.toList)) (by decide +kernel) (by decide) _ (by rfl)
theorem of1_any (v : Value) (w : World) (hT : Tab w) (hs : Strs w v t1L) : Calls Tryz.prog 103 #[v] w fun e w' => ∃ v', e = .returned (.agg #[v']) ∧ Strs w' v' (resL 1) ∧ Ext w w' :=
  of_any t1L v w hT hs (by decide) _ rfl (by decide +kernel) (by decide +kernel) ((resL 1).map (·.data.toList)) (by decide +kernel) (by decide) _ (by rfl)
theorem of2_any (v : Value) (w : World) (hT : Tab w) (hs : Strs w v t2L) : Calls Tryz.prog 103 #[v] w fun e w' => ∃ v', e = .returned (.agg #[v']) ∧ Strs w' v' (resL 2) ∧ Ext w w' :=
  of_any t2L v w hT hs (by decide) _ rfl (by decide +kernel) (by decide +kernel) ((resL 2).map (·.data.toList)) (by decide +kernel) (by decide) _ (by rfl)

theorem field125 (A : Option Addr) (n c : Nat) (w : World) : (Instr.field 125 (.agg #[.slice A n c]) 0).run Tryz.prog w = .ok (.slice A n c) w := by kernel_rfl
theorem reserved_any (d : Int) (s : ByteArray) (w : World) (hT : Tab w) : Calls Tryz.prog 52 #[.int .i64 d, .string s] w (RBool w (inS s (resL d))) := by
  have hfld := field125
  have HT := Lib.hid hT; clear hT
  have h0 : Strs _ _ t0L := Strs.mk2 w ⟨#[79, 82, 32, 88, 79, 82, 32, 65, 78, 68, 32, 78, 79, 84, 32, 77, 79, 68, 32, 83, 72, 76, 32, 83, 72, 82]⟩ ⟨#[65, 32, 66, 32, 67, 32, 68, 32, 69, 32, 72, 32, 76, 32, 77, 32, 83, 80, 32, 80, 83, 87]⟩
  have h1 : Strs _ _ t1L := Strs.mk3 w ⟨#[79, 82, 32, 88, 79, 82, 32, 65, 78, 68, 32, 78, 79, 84, 32, 77, 79, 68, 32, 83, 72, 76, 32, 83, 72, 82]⟩ ⟨#[65, 32, 66, 32, 67, 32, 68, 32, 69, 32, 72, 32, 76, 32, 65, 70, 32, 66, 67, 32, 68, 69, 32, 72, 76, 32, 83, 80]⟩ ⟨#[78, 90, 32, 90, 32, 78, 67, 32, 80, 79, 32, 80, 69, 32, 80, 32, 77]⟩
  have h2 : Strs _ _ t2L := Strs.mk3 w ⟨#[79, 82, 32, 88, 79, 82, 32, 65, 78, 68, 32, 78, 79, 84, 32, 77, 79, 68, 32, 83, 72, 76, 32, 83, 72, 82]⟩ ⟨#[65, 76, 32, 67, 76, 32, 68, 76, 32, 66, 76, 32, 65, 72, 32, 67, 72, 32, 68, 72, 32, 66, 72]⟩ ⟨#[65, 88, 32, 67, 88, 32, 68, 88, 32, 66, 88, 32, 83, 80, 32, 66, 80, 32, 83, 73, 32, 68, 73]⟩
  rcases Bool.eq_false_or_eq_true (d == 0) with d0 | d0
  · obtain rfl : d = 0 := by simpa using d0
    have H0 := Lib.hid h0; clear h0 h1 h2
    go_enter Tryz.func52, Tryz.ntmps52
    go_wp2_with (first
      | (go_at_call 103; refine (of0_any _ _ (HT.out.ext ((Ext.refl _).alloc _)) H0.out).mono ?_; rintro e w1 ⟨v1, rfl, hs1, hx1⟩; have HS1 := Lib.hid hs1; obtain ⟨A1, c1, rfl, _⟩ := hs1; generalize (resL _).length = n1 at *)
      | (go_at_call 102; refine (has_any _ _ s _ HS1.out).mono ?_; rintro e w2 ⟨rfl, hx2⟩))
    go_ret
    exact ⟨rfl, (((Ext.refl _).alloc _).trans (by assumption)).trans (by assumption)⟩
  rcases Bool.eq_false_or_eq_true (d == 1) with d1 | d1
  · obtain rfl : d = 1 := by simpa using d1
    have H0 := Lib.hid h1; clear h0 h1 h2
    go_enter Tryz.func52, Tryz.ntmps52
    go_wp2_with (first
      | (go_at_call 103; refine (of1_any _ _ (HT.out.ext ((Ext.refl _).alloc _)) H0.out).mono ?_; rintro e w1 ⟨v1, rfl, hs1, hx1⟩; have HS1 := Lib.hid hs1; obtain ⟨A1, c1, rfl, _⟩ := hs1; generalize (resL _).length = n1 at *)
      | (go_at_call 102; refine (has_any _ _ s _ HS1.out).mono ?_; rintro e w2 ⟨rfl, hx2⟩))
    go_ret
    exact ⟨rfl, (((Ext.refl _).alloc _).trans (by assumption)).trans (by assumption)⟩
  rcases Bool.eq_false_or_eq_true (d == 2) with d2 | d2
  · obtain rfl : d = 2 := by simpa using d2
    have H0 := Lib.hid h2; clear h0 h1 h2
    go_enter Tryz.func52, Tryz.ntmps52
    go_wp2_with (first
      | (go_at_call 103; refine (of2_any _ _ (HT.out.ext ((Ext.refl _).alloc _)) H0.out).mono ?_; rintro e w1 ⟨v1, rfl, hs1, hx1⟩; have HS1 := Lib.hid hs1; obtain ⟨A1, c1, rfl, _⟩ := hs1; generalize (resL _).length = n1 at *)
      | (go_at_call 102; refine (has_any _ _ s _ HS1.out).mono ?_; rintro e w2 ⟨rfl, hx2⟩))
    go_ret
    exact ⟨rfl, (((Ext.refl _).alloc _).trans (by assumption)).trans (by assumption)⟩
  have HR : Hid (resL d = []) := Lib.hid (by
    simp only [beq_eq_false_iff_ne] at d0 d1 d2
    unfold resL
    rw [if_neg d0, if_neg d1, if_neg d2])
  clear h0 h1 h2
  go_enter Tryz.func52, Tryz.ntmps52
  go_wp2
  go_ret
  exact ⟨by rw [HR.out]; rfl, Ext.refl _⟩
end Go.Proofs.YtnklmehphmidhaaGreatDoor
