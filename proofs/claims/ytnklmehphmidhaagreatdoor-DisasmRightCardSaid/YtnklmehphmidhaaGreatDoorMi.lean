/- zilog.Reserved, number.Name, number.Upper, line.Plain. -/
import Derived.Test.YtnklmehphmidhaaGreatDoorMh
import Derived.Test.YtnklmehphmidhaaGreatDoorMa
import Derived.Lib.ConvBytes
namespace Go.Proofs.YtnklmehphmidhaaGreatDoor
section
open Go.RowKit
set_option maxRecDepth 100000
set_option maxHeartbeats 4000000
set_option linter.unusedSimpArgs false
set_option linter.unusedVariables false

theorem toList_inj {s a : ByteArray} : (s.toList == a.toList) = true ↔ s = a := by
  rw [ByteArray.toList_eq, ByteArray.toList_eq]
  simp only [beq_iff_eq]
  constructor
  · intro h
    apply ByteArray.ext
    exact Array.toList_inj.1 h
  · rintro rfl; rfl
theorem toList_ne {s a : ByteArray} (h : (s.toList == a.toList) = false) : s ≠ a := fun e => by
  have := toList_inj.2 e
  rw [h] at this; cases this

/-- Is a string in a list? -/
def inS (s : ByteArray) (l : List ByteArray) : Bool := l.any (fun a => isS s a.data.toList)
theorem inS_iff {s : ByteArray} {l : List ByteArray} : inS s l = true ↔ s ∈ l := by
  unfold inS
  rw [List.any_eq_true]
  constructor
  · rintro ⟨a, ha, h⟩
    rw [isS_eq, ← ByteArray.toList_eq] at h
    rw [toList_inj.1 h]; exact ha
  · intro h
    exact ⟨s, h, by rw [isS_eq, ← ByteArray.toList_eq]; exact toList_inj.2 rfl⟩

theorem index181_any (l : List ByteArray) (v : Value) (s : ByteArray) (w : World) (hs : Strs w v l) : Calls Tryz.prog 181 #[v, .string s] w fun e w' => ∃ n : Int, e = .returned (.int .i64 n) ∧ (0 ≤ n ↔ s ∈ l) ∧ Ext w w' := by
  obtain ⟨A, c, rfl, hc, hc2, h⟩ := hs.open
  generalize hL : l.length = L at *
  have HL := Lib.hid hL; clear hL
  have HH := Lib.hid h; clear h
  go_enter Tryz.func181, Tryz.ntmps181
  go_wp2
  go_loopw [8] (fun i wr => ∃ k, k ≤ L ∧ i = .int .i64 (k : Nat) ∧ Ext w wr ∧ s ∉ l.take k) (fun i _ => L - (intOf i).toNat)
  case atStart => exact ⟨0, by omega, rfl, Ext.refl _, by simp⟩
  case round =>
    obtain ⟨k, hk, rfl, E, hno⟩ := hrel
    by_cases hlt : k < L
    · obtain ⟨b, o, rfl, hb, hcell⟩ := HH.out (by omega)
      have ka := E.cell (hcell k hlt)
      clear hcell
      generalize hka : l.getD k ⟨#[]⟩ = a at *
      have HKA := Lib.hid hka; clear hka
      have HNO := Lib.hid hno; clear hno
      go_wp2
      · go_ret
        refine ⟨k, rfl, ⟨fun _ => ?_, fun _ => by omega⟩, E⟩
        have he := toList_inj.1 ‹_›
        subst he
        have := getD_lt4 HL.out hlt
        rw [HKA.out] at this
        exact List.mem_of_getElem? this
      · refine ⟨⟨k + 1, by omega, by go_num, E, ?_⟩, by simp [intOf]; omega⟩
        have hne := toList_ne ‹_›
        have := getD_lt4 HL.out hlt
        rw [HKA.out] at this
        rw [List.take_add_one, this]
        simp [HNO.out, hne]
    · obtain rfl : k = L := by omega
      have HNO := Lib.hid hno; clear hno
      go_wp2
      go_ret
      refine ⟨-1, rfl, ⟨fun h => by omega, fun h => ?_⟩, E⟩
      have hn := HNO.out
      rw [List.take_of_length_le (by have := HL.out; omega)] at hn
      exact absurd h hn
theorem contains144_any (l : List ByteArray) (v : Value) (s : ByteArray) (w : World) (hs : Strs w v l) : Calls Tryz.prog 144 #[v, .string s] w (RBool w (inS s l)) := by
  obtain ⟨A, c, rfl, _⟩ := hs.open
  have HS := Lib.hid hs; clear hs
  go_enter Tryz.func144, Tryz.ntmps144
  go_wp2_with (go_at_call 181; refine (index181_any l _ s _ HS.out).mono ?_; rintro e w' ⟨n, rfl, hn, hx⟩; have HN := Lib.hid hn; clear hn)
  go_ret
  refine ⟨?_, ‹_›⟩
  have := HN.out
  have hb : decide (0 ≤ n) = inS s l := by rw [Bool.eq_iff_iff, inS_iff, ← this]; simp
  rw [← hb]; rfl
theorem has_any (l : List ByteArray) (v : Value) (s : ByteArray) (w : World) (hs : Strs w v l) : Calls Tryz.prog 102 #[v, .string s] w (RBool w (inS s l)) := by
  obtain ⟨A, c, rfl, _⟩ := hs.open
  have HS := Lib.hid hs; clear hs
  go_enter Tryz.func102, Tryz.ntmps102
  go_wp2_with (go_at_call 144; refine (contains144_any l _ s _ HS.out).mono ?_; rintro e w' ⟨rfl, hx⟩)
  go_ret
  exact ⟨rfl, ‹_›⟩
end

section
open Go.RowKit
set_option maxRecDepth 100000
set_option maxHeartbeats 4000000
set_option linter.unusedSimpArgs false
set_option linter.unusedVariables false

theorem load125 {w : World} {g : Nat} {c0 : Value} (h : Blk w g #[c0]) : (loadVar 125 ⟨g, 0, none⟩).run Tryz.prog w = .ok (.agg #[c0]) w := by
  have hc := h.cell
  simp [go_sem, hc]

theorem fields_any (j : List UInt8) (w : World) (hT : Tab w) (hsz : j.length ≤ 1000) (hascii : ∀ b ∈ j, b.toNat < 128) (F : List (List UInt8)) (hF : Lib.fields j = F) (hF2 : F.length ≤ 1000) :
    Calls Tryz.prog 145 #[.string ⟨j.toArray⟩] w fun e w' => ∃ A c, e = .returned (.slice A (F.map fun l => (⟨l.toArray⟩ : ByteArray)).length c) ∧ Strs w' (.slice A (F.map fun l => (⟨l.toArray⟩ : ByteArray)).length c) (F.map fun l => ⟨l.toArray⟩) ∧ Ext w w' := by
  refine (Tryz.strings_Fields ⟨j.toArray⟩ w (by have : (ByteArray.mk j.toArray).size = j.length := by rfl
                                                omega) (fun i x hx => hascii x (List.mem_of_getElem? hx)) hT).mono ?_
  rintro e w' ⟨rfl, rfl⟩
  rw [show (ByteArray.mk j.toArray).data.toList = j from rfl, hF]
  refine ⟨some ⟨w.heap.size, 0, none⟩, F.length, by rw [List.length_map], ?_, (Ext.refl _).alloc _⟩
  have := Strs.alloc w (F.map fun l => (⟨l.toArray⟩ : ByteArray)) (by simp; omega) 9 (F.map fun l => Value.string ⟨l.toArray⟩).toArray (by rw [List.map_map]; rfl) F.length (by simp)
  rw [List.length_map]
  exact this

theorem of_any (l : List ByteArray) (v : Value) (w : World) (hT : Tab w) (hs : Strs w v l) (h0 : 0 < l.length) (j : List UInt8) (hj : Lib.join (l.map (·.data.toList)) [32] = j) (hsz : j.length ≤ 1000) (hascii : ∀ b ∈ j, b.toNat < 128) (F : List (List UInt8)) (hF : Lib.fields j = F) (hF2 : F.length ≤ 1000) (R : List ByteArray) (hR : F.map (fun l => (⟨l.toArray⟩ : ByteArray)) = R) :
    Calls Tryz.prog 103 #[v] w fun e w' => ∃ v', e = .returned (.agg #[v']) ∧ Strs w' v' R ∧ Ext w w' := by
  subst hR
  obtain ⟨A, c, rfl, hc, hc2, hcell⟩ := hs
  obtain ⟨b, o, rfl, hb, hcell⟩ := hcell h0
  have HJ := Lib.hid (Tryz.strings_Join b o c l ⟨#[32]⟩ (w.alloc (.cells #[.slice none 0 0] 125)) (fun j x hx => ((Ext.refl w).alloc _).cell (hcell j x hx)) (by simp; omega) (by omega) hc (by show (Lib.join _ [32]).length ≤ _; rw [hj]; omega))
  have HJ2 := Lib.hid hj
  have HF := Lib.hid hF
  have HC := Lib.hid hcell
  clear hj hF hcell
  have HA := Lib.hid hascii; clear hascii
  have HT := Lib.hid hT; clear hT
  go_enter Tryz.func103, Tryz.ntmps103
  go_wp2_with (first
    | (go_at_call 48; refine HJ.out.mono ?_; rintro e w1 ⟨rfl, hx1⟩; rw [show (ByteArray.mk #[32]).data.toList = [32] from rfl, HJ2.out]; have hB1 := (Blk.new w #[.slice none 0 0] 125).ext hx1)
    | (go_at_call 145; refine (fields_any j _ (HT.out.ext (((Ext.refl _).alloc _).trans hx1)) hsz HA.out F HF.out hF2).mono ?_; rintro e w2 ⟨A2, c2, rfl, hs2, hx2⟩; have hB2 := hB1.ext hx2; have k := hB2.cell; have f := hB2.frozen; have HS2 := Lib.hid hs2; clear hs2))
  refine bodyPost_ret (res1 rfl _ _ _ w.heap.size _ rfl (load125 (hB2.put 0 _))) rfl ⟨_, rfl, ?_, ?_⟩
  · have hs3 := HS2.out
    rw [List.length_map] at hs3
    obtain ⟨A3, c3, hv, h1, h2, h3⟩ := hs3
    refine ⟨A3, c3, hv, h1, h2, fun hp => ?_⟩
    obtain ⟨b4, o4, h4, h5, h6⟩ := h3 hp
    refine ⟨b4, o4, h4, by simpa using h5, fun j x hx => ?_⟩
    have hne : b4 ≠ w.heap.size := by
      rintro rfl
      have h7 := h6 0 ((F.map fun l => (⟨l.toArray⟩ : ByteArray))[0]'hp) (List.getElem?_eq_getElem hp)
      rw [hB2.cell] at h7
      rcases o4 with _ | o4
      · simp at h7
      · simp at h7
    rw [World.cell?_setCell_other _ _ _ _ (by intro e; injection e with e1 e2; exact hne e1.symm)]
    exact h6 j x hx
  · exact ((((Ext.refl w).alloc _).trans hx1).trans hx2).setCell (by simp) _

/-- The words of a dialect. -/
def resL (d : Int) : List ByteArray :=
  if d = 0 then [⟨#[79, 82]⟩, ⟨#[88, 79, 82]⟩, ⟨#[65, 78, 68]⟩, ⟨#[78, 79, 84]⟩, ⟨#[77, 79, 68]⟩, ⟨#[83, 72, 76]⟩, ⟨#[83, 72, 82]⟩, ⟨#[65]⟩, ⟨#[66]⟩, ⟨#[67]⟩, ⟨#[68]⟩, ⟨#[69]⟩, ⟨#[72]⟩, ⟨#[76]⟩, ⟨#[77]⟩, ⟨#[83, 80]⟩, ⟨#[80, 83, 87]⟩]
  else if d = 1 then [⟨#[79, 82]⟩, ⟨#[88, 79, 82]⟩, ⟨#[65, 78, 68]⟩, ⟨#[78, 79, 84]⟩, ⟨#[77, 79, 68]⟩, ⟨#[83, 72, 76]⟩, ⟨#[83, 72, 82]⟩, ⟨#[65]⟩, ⟨#[66]⟩, ⟨#[67]⟩, ⟨#[68]⟩, ⟨#[69]⟩, ⟨#[72]⟩, ⟨#[76]⟩, ⟨#[65, 70]⟩, ⟨#[66, 67]⟩, ⟨#[68, 69]⟩, ⟨#[72, 76]⟩, ⟨#[83, 80]⟩, ⟨#[78, 90]⟩, ⟨#[90]⟩, ⟨#[78, 67]⟩, ⟨#[80, 79]⟩, ⟨#[80, 69]⟩, ⟨#[80]⟩, ⟨#[77]⟩]
  else if d = 2 then [⟨#[79, 82]⟩, ⟨#[88, 79, 82]⟩, ⟨#[65, 78, 68]⟩, ⟨#[78, 79, 84]⟩, ⟨#[77, 79, 68]⟩, ⟨#[83, 72, 76]⟩, ⟨#[83, 72, 82]⟩, ⟨#[65, 76]⟩, ⟨#[67, 76]⟩, ⟨#[68, 76]⟩, ⟨#[66, 76]⟩, ⟨#[65, 72]⟩, ⟨#[67, 72]⟩, ⟨#[68, 72]⟩, ⟨#[66, 72]⟩, ⟨#[65, 88]⟩, ⟨#[67, 88]⟩, ⟨#[68, 88]⟩, ⟨#[66, 88]⟩, ⟨#[83, 80]⟩, ⟨#[66, 80]⟩, ⟨#[83, 73]⟩, ⟨#[68, 73]⟩]
  else []
def t0L : List ByteArray := [⟨#[79, 82, 32, 88, 79, 82, 32, 65, 78, 68, 32, 78, 79, 84, 32, 77, 79, 68, 32, 83, 72, 76, 32, 83, 72, 82]⟩, ⟨#[65, 32, 66, 32, 67, 32, 68, 32, 69, 32, 72, 32, 76, 32, 77, 32, 83, 80, 32, 80, 83, 87]⟩]
def t1L : List ByteArray := [⟨#[79, 82, 32, 88, 79, 82, 32, 65, 78, 68, 32, 78, 79, 84, 32, 77, 79, 68, 32, 83, 72, 76, 32, 83, 72, 82]⟩, ⟨#[65, 32, 66, 32, 67, 32, 68, 32, 69, 32, 72, 32, 76, 32, 65, 70, 32, 66, 67, 32, 68, 69, 32, 72, 76, 32, 83, 80]⟩, ⟨#[78, 90, 32, 90, 32, 78, 67, 32, 80, 79, 32, 80, 69, 32, 80, 32, 77]⟩]
def t2L : List ByteArray := [⟨#[79, 82, 32, 88, 79, 82, 32, 65, 78, 68, 32, 78, 79, 84, 32, 77, 79, 68, 32, 83, 72, 76, 32, 83, 72, 82]⟩, ⟨#[65, 76, 32, 67, 76, 32, 68, 76, 32, 66, 76, 32, 65, 72, 32, 67, 72, 32, 68, 72, 32, 66, 72]⟩, ⟨#[65, 88, 32, 67, 88, 32, 68, 88, 32, 66, 88, 32, 83, 80, 32, 66, 80, 32, 83, 73, 32, 68, 73]⟩]
theorem of0_any (v : Value) (w : World) (hT : Tab w) (hs : Strs w v t0L) : Calls Tryz.prog 103 #[v] w fun e w' => ∃ v', e = .returned (.agg #[v']) ∧ Strs w' v' (resL 0) ∧ Ext w w' :=
  of_any t0L v w hT hs (by decide) _ rfl (by decide +kernel) (by decide +kernel) ((resL 0).map (·.data.toList)) (by decide +kernel) (by decide) _ (by rfl)
theorem of1_any (v : Value) (w : World) (hT : Tab w) (hs : Strs w v t1L) : Calls Tryz.prog 103 #[v] w fun e w' => ∃ v', e = .returned (.agg #[v']) ∧ Strs w' v' (resL 1) ∧ Ext w w' :=
  of_any t1L v w hT hs (by decide) _ rfl (by decide +kernel) (by decide +kernel) ((resL 1).map (·.data.toList)) (by decide +kernel) (by decide) _ (by rfl)
theorem of2_any (v : Value) (w : World) (hT : Tab w) (hs : Strs w v t2L) : Calls Tryz.prog 103 #[v] w fun e w' => ∃ v', e = .returned (.agg #[v']) ∧ Strs w' v' (resL 2) ∧ Ext w w' :=
  of_any t2L v w hT hs (by decide) _ rfl (by decide +kernel) (by decide +kernel) ((resL 2).map (·.data.toList)) (by decide +kernel) (by decide) _ (by rfl)

theorem field125 (A : Option Addr) (n c : Nat) (w : World) : (Instr.field 125 (.agg #[.slice A n c]) 0).run Tryz.prog w = .ok (.slice A n c) w := by kernel_rfl
theorem reserved_any (d : Int) (s : ByteArray) (w : World) (hT : Tab w) : Calls Tryz.prog 52 #[.int .i64 d, .string s] w (RBool w (inS s (resL d))) := by
  have hfld := field125
  have HT := Lib.hid hT; clear hT
  have h0 : Strs _ _ t0L := Strs.mk2 w ⟨#[79, 82, 32, 88, 79, 82, 32, 65, 78, 68, 32, 78, 79, 84, 32, 77, 79, 68, 32, 83, 72, 76, 32, 83, 72, 82]⟩ ⟨#[65, 32, 66, 32, 67, 32, 68, 32, 69, 32, 72, 32, 76, 32, 77, 32, 83, 80, 32, 80, 83, 87]⟩
  have h1 : Strs _ _ t1L := Strs.mk3 w ⟨#[79, 82, 32, 88, 79, 82, 32, 65, 78, 68, 32, 78, 79, 84, 32, 77, 79, 68, 32, 83, 72, 76, 32, 83, 72, 82]⟩ ⟨#[65, 32, 66, 32, 67, 32, 68, 32, 69, 32, 72, 32, 76, 32, 65, 70, 32, 66, 67, 32, 68, 69, 32, 72, 76, 32, 83, 80]⟩ ⟨#[78, 90, 32, 90, 32, 78, 67, 32, 80, 79, 32, 80, 69, 32, 80, 32, 77]⟩
  have h2 : Strs _ _ t2L := Strs.mk3 w ⟨#[79, 82, 32, 88, 79, 82, 32, 65, 78, 68, 32, 78, 79, 84, 32, 77, 79, 68, 32, 83, 72, 76, 32, 83, 72, 82]⟩ ⟨#[65, 76, 32, 67, 76, 32, 68, 76, 32, 66, 76, 32, 65, 72, 32, 67, 72, 32, 68, 72, 32, 66, 72]⟩ ⟨#[65, 88, 32, 67, 88, 32, 68, 88, 32, 66, 88, 32, 83, 80, 32, 66, 80, 32, 83, 73, 32, 68, 73]⟩
  rcases Bool.eq_false_or_eq_true (d == 0) with d0 | d0
  · obtain rfl : d = 0 := by simpa using d0
    have H0 := Lib.hid h0; clear h0 h1 h2
    go_enter Tryz.func52, Tryz.ntmps52
    go_wp2_with (first
      | (go_at_call 103; refine (of0_any _ _ (HT.out.ext ((Ext.refl _).alloc _)) H0.out).mono ?_; rintro e w1 ⟨v1, rfl, hs1, hx1⟩; have HS1 := Lib.hid hs1; obtain ⟨A1, c1, rfl, _⟩ := hs1; generalize (resL _).length = n1 at *)
      | (go_at_call 102; refine (has_any _ _ s _ HS1.out).mono ?_; rintro e w2 ⟨rfl, hx2⟩))
    go_ret
    exact ⟨rfl, (((Ext.refl _).alloc _).trans (by assumption)).trans (by assumption)⟩
  rcases Bool.eq_false_or_eq_true (d == 1) with d1 | d1
  · obtain rfl : d = 1 := by simpa using d1
    have H0 := Lib.hid h1; clear h0 h1 h2
    go_enter Tryz.func52, Tryz.ntmps52
    go_wp2_with (first
      | (go_at_call 103; refine (of1_any _ _ (HT.out.ext ((Ext.refl _).alloc _)) H0.out).mono ?_; rintro e w1 ⟨v1, rfl, hs1, hx1⟩; have HS1 := Lib.hid hs1; obtain ⟨A1, c1, rfl, _⟩ := hs1; generalize (resL _).length = n1 at *)
      | (go_at_call 102; refine (has_any _ _ s _ HS1.out).mono ?_; rintro e w2 ⟨rfl, hx2⟩))
    go_ret
    exact ⟨rfl, (((Ext.refl _).alloc _).trans (by assumption)).trans (by assumption)⟩
  rcases Bool.eq_false_or_eq_true (d == 2) with d2 | d2
  · obtain rfl : d = 2 := by simpa using d2
    have H0 := Lib.hid h2; clear h0 h1 h2
    go_enter Tryz.func52, Tryz.ntmps52
    go_wp2_with (first
      | (go_at_call 103; refine (of2_any _ _ (HT.out.ext ((Ext.refl _).alloc _)) H0.out).mono ?_; rintro e w1 ⟨v1, rfl, hs1, hx1⟩; have HS1 := Lib.hid hs1; obtain ⟨A1, c1, rfl, _⟩ := hs1; generalize (resL _).length = n1 at *)
      | (go_at_call 102; refine (has_any _ _ s _ HS1.out).mono ?_; rintro e w2 ⟨rfl, hx2⟩))
    go_ret
    exact ⟨rfl, (((Ext.refl _).alloc _).trans (by assumption)).trans (by assumption)⟩
  have HR : Hid (resL d = []) := Lib.hid (by
    simp only [beq_eq_false_iff_ne] at d0 d1 d2
    unfold resL
    rw [if_neg d0, if_neg d1, if_neg d2])
  clear h0 h1 h2
  go_enter Tryz.func52, Tryz.ntmps52
  go_wp2
  go_ret
  exact ⟨by rw [HR.out]; rfl, Ext.refl _⟩
end

section
open Go.RowKit
set_option maxRecDepth 100000
set_option maxHeartbeats 4000000
set_option linter.unusedSimpArgs false
set_option linter.unusedVariables false

def begB (x : Int) : Bool := decide (97 ≤ bits .or .u8 x 32 ∧ bits .or .u8 x 32 ≤ 122)
theorem u8_or_range (x : Int) (h0 : 0 ≤ x) (h1 : x ≤ 255) : 0 ≤ bits .or .u8 x 32 ∧ bits .or .u8 x 32 ≤ 255 := by
  obtain ⟨n, rfl⟩ := Int.eq_ofNat_of_zero_le h0
  have key : ∀ i : Fin 256, 0 ≤ bits .or .u8 (i.val : Nat) 32 ∧ bits .or .u8 (i.val : Nat) 32 ≤ 255 := by decide +kernel
  exact key ⟨n, by omega⟩
theorem ret_bool {a b : Bool} (h : a = b) : Ending.returned (.bool a) = .returned (.bool b) := by rw [h]
theorem begins_any (x : Int) (h0 : 0 ≤ x) (h1 : x ≤ 255) (w : World) : Calls Tryz.prog 104 #[.int .u8 x] w fun e w' => e = .returned (.bool (begB x)) ∧ w = w' := by
  have hr := u8_or_range x h0 h1
  have hB := Lib.hid (show begB x = decide (97 ≤ bits .or .u8 x 32 ∧ bits .or .u8 x 32 ≤ 122) from rfl)
  go_enter Tryz.func104, Tryz.ntmps104
  go_wp2
  all_goals
    go_ret
    exact ⟨ret_bool (by rw [hB.out]; first | (simp [*]; done) | (simp [*]; omega)), rfl⟩

/-- A string's byte. -/
def byteI (s : ByteArray) (i : Nat) : Int := ((s.data.toList.getD i 0).toNat : Int)
theorem byteI_at (s : ByteArray) (i : Nat) (h : i < s.size) : ((s[i]'h).toNat : Int) = byteI s i := by
  unfold byteI
  congr 2
  rw [List.getD_eq_getElem?_getD, List.getElem?_eq_getElem (by simpa using h)]
  rfl
theorem byteI_range (s : ByteArray) (i : Nat) : 0 ≤ byteI s i ∧ byteI s i ≤ 255 := by
  unfold byteI
  have := (s.data.toList.getD i 0).toNat_lt
  omega
def okC (z : Bool) (x : Int) : Bool := (begB x && decide (x < 128)) || x == 63 || x == 64 || x == 95 || (!z && decide (48 ≤ x) && decide (x ≤ 57))
def okAt (s : ByteArray) (i : Nat) : Bool := okC (i == 0) (byteI s i)
def nameB (s : ByteArray) : Bool := decide (s.size ≠ 0) && decide (s.size ≤ 16) && (List.range s.size).all (okAt s)
theorem nameB_false {s : ByteArray} {k : Nat} (hk : k < s.size) (h : okAt s k = false) : nameB s = false := by
  unfold nameB
  rw [Bool.and_eq_false_iff]
  refine .inr ?_
  rw [List.all_eq_false]
  exact ⟨k, List.mem_range.2 hk, by simp [h]⟩
theorem nameB_true {s : ByteArray} (h0 : s.size ≠ 0) (h16 : s.size ≤ 16) (h : ∀ i, i < s.size → okAt s i = true) : nameB s = true := by
  unfold nameB
  simp only [Bool.and_eq_true, decide_eq_true_eq, List.all_eq_true, List.mem_range]
  exact ⟨⟨h0, h16⟩, h⟩

theorem name53_any (s : ByteArray) (w : World) : Calls Tryz.prog 53 #[.string s] w fun e w' => e = .returned (.bool (nameB s)) ∧ w = w' := by
  by_cases h0 : s.size = 0
  · have he : s.toList = [] := by
      rw [ByteArray.toList_eq]
      exact List.eq_nil_of_length_eq_zero (by rw [Array.length_toList]; exact h0)
    have HN : Hid (nameB s = false) := Lib.hid (by unfold nameB; rw [h0]; rfl)
    clear h0
    go_enter Tryz.func53, Tryz.ntmps53
    go_wp2
    go_ret
    exact ⟨ret_bool HN.out.symm, rfl⟩
  have he : s.toList.isEmpty = false := by
    rw [ByteArray.toList_eq]
    rw [Bool.eq_false_iff]
    intro h
    rw [List.isEmpty_iff] at h
    have := congrArg List.length h
    rw [Array.length_toList] at this
    exact h0 this
  by_cases h16 : (16 : Int) < s.size
  · have hn : nameB s = false := by
      unfold nameB
      simp; omega
    rw [hn]
    clear hn h0
    go_enter Tryz.func53, Tryz.ntmps53
    go_wp2
    go_ret
    exact ⟨rfl, rfl⟩
  have hL16 : (s.size : Int) ≤ 16 := by omega
  have hL0 : 0 < s.size := by omega
  clear h0 h16
  go_enter Tryz.func53, Tryz.ntmps53
  go_wp2
  go_loop [14] (fun i => ∃ k : Nat, k ≤ s.size ∧ i = .int .i64 k ∧ Hid (∀ j, j < k → okAt s j = true)) (fun i => s.size - (intOf i).toNat)
  case atStart => exact ⟨0, by omega, rfl, Lib.hid (by intro j hj; omega)⟩
  case round =>
    obtain ⟨k, hk, rfl, HK⟩ := hrel
    by_cases hlt : k < s.size
    · obtain ⟨c, hc⟩ : ∃ c, ((s[k]'hlt).toNat : Int) = c := ⟨_, rfl⟩
      have hcr : 0 ≤ c ∧ c ≤ 255 := by have := (s[k]'hlt).toNat_lt; omega
      have HC : Hid (byteI s k = c) := Lib.hid (by rw [← hc, byteI_at])
      have hc0 := hcr.1
      have hc1 := hcr.2
      rcases Bool.eq_false_or_eq_true (begB c) with hbg | hbg
      all_goals
        have HBG := Lib.hid hbg
        go_wp2_with (go_at_call 104; refine (begins_any _ hc0 hc1 _).mono ?_; rw [HBG.out]; rintro e w' ⟨rfl, rfl⟩)
      all_goals first
        | (go_ret
           refine ⟨ret_bool (Eq.symm (nameB_false hlt ?_)), rfl⟩
           clear hc HK
           rw [okAt, HC.out, okC, HBG.out, Bool.eq_false_iff]
           intro hcon
           simp only [true_and, false_and, false_or, Bool.false_eq_true, beq_iff_eq, beq_eq_false_iff_ne, Bool.or_eq_true, Bool.and_eq_true, decide_eq_true_eq, Bool.not_eq_true'] at *
           omega)
        | (go_round
           case rel =>
             have hok : okAt s k = true := by
               clear hc HK
               rw [okAt, HC.out, okC, HBG.out]
               simp only [true_and, false_and, false_or, Bool.false_eq_true, beq_iff_eq, beq_eq_false_iff_ne, Bool.or_eq_true, Bool.and_eq_true, decide_eq_true_eq, Bool.not_eq_true'] at *
               omega
             exact ⟨k + 1, by omega, by go_num, Lib.hid (fun j hj => by
               rcases Nat.lt_or_ge j k with h | h
               · exact HK.out j h
               · obtain rfl : j = k := by omega
                 exact hok)⟩
           case measure => simp [intOf]; omega)
    · obtain rfl : k = s.size := by omega
      have HN : Hid (nameB s = true) := Lib.hid (nameB_true (by omega) (by omega) HK.out)
      go_wp2
      go_ret
      exact ⟨ret_bool HN.out.symm, rfl⟩
end

section
open Go.RowKit
set_option maxRecDepth 100000
set_option maxHeartbeats 4000000
set_option linter.unusedSimpArgs false
set_option linter.unusedVariables false

def upI (x : Int) : Int := if 97 ≤ x ∧ x ≤ 122 then x - 32 else x
def upperS (s : ByteArray) : ByteArray := strOfNums ((List.range s.size).map (fun i => upI (byteI s i)))

/-- '[]byte(s)', laid. -/
theorem bytes_laid (w : World) (s : ByteArray) : Ext w (Lib.bytesWorld w 5 s) ∧ w.heap.size < (Lib.bytesWorld w 5 s).heap.size ∧
    (∀ j, j < s.size → (Lib.bytesWorld w 5 s).cell? ⟨w.heap.size, j, none⟩ = some (.int .u8 (byteI s j))) ∧ (∀ j, j < s.size → (Lib.bytesWorld w 5 s).frozen? ⟨w.heap.size, j, none⟩ = false) := by
  refine ⟨⟨rfl, rfl, rfl, ?_, fun b hb => Lib.bytesWorld_at_old w 5 s b hb⟩, ?_, fun j hj => Lib.bytesWorld_cell w 5 s j hj, fun j hj => ?_⟩
  · rw [Lib.bytesWorld_size]; omega
  · rw [Lib.bytesWorld_size]; omega
  · unfold World.frozen?
    rw [Lib.bytesWorld_at_new]
    have : s.size ≤ (Lib.bytesCells w 5 s).size := by unfold Lib.bytesCells; rw [Array.size_append, Array.size_map]; exact Nat.le_add_right _ _
    simp; omega

structure UpSt (w : World) (s : ByteArray) (g k : Nat) (wr : World) : Prop where
  E : Ext w wr
  lt : g < wr.heap.size
  cell : ∀ j, j < s.size → wr.cell? ⟨g, j, none⟩ = some (.int .u8 (if j < k then upI (byteI s j) else byteI s j))
  free : ∀ j, j < s.size → wr.frozen? ⟨g, j, none⟩ = false

theorem UpSt.next {w wr : World} {s : ByteArray} {g k : Nat} (h : UpSt w s g k wr) (hg : w.heap.size ≤ g) (hk : k < s.size) (x : Int) (hx : x = upI (byteI s k)) : UpSt w s g (k + 1) (wr.setCell ⟨g, k, none⟩ (.int .u8 x)) := by
  subst hx
  refine ⟨h.E.setCell hg _, by simpa using h.lt, fun j hj => ?_, fun j hj => by rw [World.frozen?_setCell]; exact h.free j hj⟩
  by_cases hjk : j = k
  · subst hjk
    rw [World.cell?_setCell_same _ _ _ (h.cell _ hj), if_pos (by omega)]
  · rw [World.cell?_setCell_other _ _ _ _ (by intro e; injection e with e1 e2; omega), h.cell j hj]
    by_cases hlt : j < k
    · rw [if_pos hlt, if_pos (by omega)]
    · rw [if_neg hlt, if_neg (by omega)]
theorem UpSt.skip {w wr : World} {s : ByteArray} {g k : Nat} (h : UpSt w s g k wr) (hk : k < s.size) (hx : byteI s k = upI (byteI s k)) : UpSt w s g (k + 1) wr := by
  refine ⟨h.E, h.lt, fun j hj => ?_, h.free⟩
  rw [h.cell j hj]
  by_cases hlt : j < k
  · rw [if_pos hlt, if_pos (by omega)]
  · rw [if_neg hlt]
    by_cases hjk : j = k
    · subst hjk; rw [if_pos (by omega), ← hx]
    · rw [if_neg (by omega)]

theorem upper_any (s : ByteArray) (hs : (s.size : Int) ≤ 1000000) (w : World) : Calls Tryz.prog 54 #[.string s] w (RStr w (upperS s)) := by
  have hconv := fun W => Lib.run_convert_string_bytes (P := Tryz.prog) W 9 22 5 s Tryz.underlying9 Tryz.underlying22 Tryz.underlying5
  go_enter Tryz.func54, Tryz.ntmps54
  go_wp2
  obtain ⟨E, hlt, hcell, hfree⟩ := bytes_laid w s
  generalize Lib.bytesWorld w 5 s = W1 at *
  generalize grownCap w s.size 0 5 = cap at *
  have HS : Hid (UpSt w s w.heap.size 0 W1) := Lib.hid ⟨E, hlt, fun j hj => by rw [if_neg (by omega)]; exact hcell j hj, hfree⟩
  clear E hlt hcell hfree hconv
  go_loopw [10] (fun i wr => ∃ k : Nat, k ≤ s.size ∧ i = .int .i64 k ∧ Hid (UpSt w s w.heap.size k wr)) (fun i _ => s.size - (intOf i).toNat)
  case atStart => exact ⟨0, by omega, rfl, HS⟩
  case round =>
    obtain ⟨k, hk, rfl, HK⟩ := hrel
    by_cases hlt : k < s.size
    · have kc := HK.out.cell k hlt
      rw [if_neg (by omega)] at kc
      have kf := HK.out.free k hlt
      have hr := byteI_range s k
      obtain ⟨c, hc⟩ : ∃ c, byteI s k = c := ⟨_, rfl⟩
      rw [hc] at kc hr
      have HC := Lib.hid hc; clear hc
      have hc0 := hr.1
      have hc1 := hr.2
      by_cases h1 : 97 ≤ c ∧ c ≤ 122
      · have g1 := h1.1
        have g2 := h1.2
        go_wp2
        go_roundw
        case rel => exact ⟨k + 1, by omega, by go_num, Lib.hid (HK.out.next (Nat.le_refl _) hlt _ (by rw [HC.out, upI, if_pos h1]; omega))⟩
        case measure => simp [intOf]; omega
      · by_cases g1 : 97 ≤ c
        · have g2 : 122 < c := by omega
          go_wp2
          go_roundw
          case rel => exact ⟨k + 1, by omega, by go_num, Lib.hid (HK.out.skip hlt (by rw [HC.out, upI, if_neg h1]))⟩
          case measure => simp [intOf]; omega
        · have g2 : c < 97 := by omega
          go_wp2
          go_roundw
          case rel => exact ⟨k + 1, by omega, by go_num, Lib.hid (HK.out.skip hlt (by rw [HC.out, upI, if_neg h1]))⟩
          case measure => simp [intOf]; omega
    · obtain rfl : k = s.size := by omega
      have hback : (convert 22 9 (.slice (some ⟨w.heap.size, 0, none⟩) s.size cap)).run Tryz.prog wr = .ok (.string (upperS s)) wr :=
        run_convert_bytes_arg (P := Tryz.prog) _ 22 5 Tryz.underlying22 Tryz.underlying5 _ 0 _ _ _ (by simp) (fun i hi => by
          have := HK.out.cell i hi
          rw [if_pos hi] at this
          simp only [Nat.zero_add]
          rw [this]
          simp [List.getD, hi]) 9 Tryz.underlying9
      go_wp2
      go_ret
      exact ⟨rfl, HK.out.E⟩
end

section
open Go.RowKit
set_option maxRecDepth 100000
set_option maxHeartbeats 4000000
set_option linter.unusedSimpArgs false
set_option linter.unusedVariables false

theorem contains105_any (l : List ByteArray) (v : Value) (s : ByteArray) (w : World) (hs : Strs w v l) : Calls Tryz.prog 105 #[v, .string s] w (RBool w (inS s l)) := by
  obtain ⟨A, c, rfl, hc, hc2, hcell⟩ := hs.open
  have key : ∀ l : List ByteArray, Lib.containsS l s = inS s l := by
    intro l
    rw [Bool.eq_iff_iff, inS_iff]
    exact Lib.containsS_iff l s
  rcases Nat.eq_zero_or_pos l.length with h | h
  · have : l = [] := List.eq_nil_of_length_eq_zero h
    subst this
    exact (Tryz.slices_Contains_string_empty A c s w).mono fun e w' ⟨he, hw⟩ => ⟨he, hw ▸ Ext.refl _⟩
  · obtain ⟨b, o, rfl, hb, hcell⟩ := hcell h
    refine (Tryz.slices_Contains_string b o l.length c l s w (Nat.le_refl _) (by omega) (fun j hj => hcell j hj)).mono fun e w' ⟨he, hw⟩ => ⟨?_, hw ▸ Ext.refl _⟩
    rw [he, List.take_length, key]

theorem one_any (l : List ByteArray) (v : Value) (s : ByteArray) (w : World) (hs : Strs w v l) : Calls Tryz.prog 55 #[.string s, v] w (RBool w (inS s l)) := by
  obtain ⟨A, c, rfl, _⟩ := hs.open
  have HS := Lib.hid hs; clear hs
  go_enter Tryz.func55, Tryz.ntmps55
  go_wp2_with (go_at_call 105; refine (contains105_any l _ s _ HS.out).mono ?_; rintro e w' ⟨rfl, hx⟩)
  go_ret
  exact ⟨rfl, ‹_›⟩

def setsL : List ByteArray := [⟨#[69, 81, 85]⟩, ⟨#[83, 69, 84]⟩]
theorem sets_any (s : ByteArray) (w : World) : Calls Tryz.prog 34 #[.string s] w (RBool w (inS s setsL)) := by
  have hs := Strs.mk2 w ⟨#[69, 81, 85]⟩ ⟨#[83, 69, 84]⟩
  have HS := Lib.hid hs; clear hs
  go_enter Tryz.func34, Tryz.ntmps34
  go_wp2_with (go_at_call 55; refine (one_any setsL _ s _ HS.out).mono ?_; rintro e w' ⟨rfl, hx⟩)
  go_ret
  exact ⟨rfl, ((Ext.refl _).alloc _).trans ‹_›⟩

def greatB (s : ByteArray) : Bool := nameB s && isS (upperS s) s.data.toList
theorem nameB_size {s : ByteArray} (h : nameB s = true) : s.size ≤ 16 := by
  unfold nameB at h
  simp only [Bool.and_eq_true, decide_eq_true_eq] at h
  exact h.1.2
theorem great_any (s : ByteArray) (w : World) : Calls Tryz.prog 33 #[.string s] w (RBool w (greatB s)) := by
  rcases Bool.eq_false_or_eq_true (nameB s) with hn | hn
  · have hsz := nameB_size hn
    have HG : Hid (greatB s = ((upperS s).toList == s.toList)) := Lib.hid (by unfold greatB; rw [hn, isS_eq, ← ByteArray.toList_eq]; rfl)
    have HN := Lib.hid hn; clear hn
    go_enter Tryz.func33, Tryz.ntmps33
    go_wp2_with (first
      | (go_at_call 53; refine (name53_any _ _).mono ?_; rw [HN.out]; rintro e w' ⟨rfl, rfl⟩)
      | (go_at_call 54; refine (upper_any _ (by omega) _).mono ?_; rintro e w' ⟨rfl, hx⟩))
    go_ret
    exact ⟨ret_bool HG.out.symm, ‹_›⟩
  · have HG : Hid (greatB s = false) := Lib.hid (by unfold greatB; rw [hn]; rfl)
    have HN := Lib.hid hn; clear hn
    go_enter Tryz.func33, Tryz.ntmps33
    go_wp2_with (go_at_call 53; refine (name53_any _ _).mono ?_; rw [HN.out]; rintro e w' ⟨rfl, rfl⟩)
    go_ret
    exact ⟨ret_bool HG.out.symm, Ext.refl _⟩

def plainB (d : Int) (s : ByteArray) : Bool := greatB s && !inS s (resL d) && !inS s setsL
theorem plain32_any (d : Int) (s : ByteArray) (w : World) (hT : Tab w) : Calls Tryz.prog 32 #[.int .i64 d, .string s] w (RBool w (plainB d s)) := by
  have HT := Lib.hid hT; clear hT
  rcases Bool.eq_false_or_eq_true (greatB s) with h1 | h1
  · rcases Bool.eq_false_or_eq_true (inS s (resL d)) with h2 | h2
    · have HP : Hid (plainB d s = false) := Lib.hid (by unfold plainB; rw [h1, h2]; rfl)
      have H1 := Lib.hid h1; have H2 := Lib.hid h2; clear h1 h2
      go_enter Tryz.func32, Tryz.ntmps32
      go_wp2_with (first
        | (go_at_call 33; refine (great_any _ _).mono ?_; rw [H1.out]; rintro e w1 ⟨rfl, hx1⟩)
        | (go_at_call 52; refine (reserved_any _ _ _ (HT.out.ext hx1)).mono ?_; rw [H2.out]; rintro e w2 ⟨rfl, hx2⟩))
      go_ret
      exact ⟨ret_bool HP.out.symm, (‹Ext w _›).trans ‹_›⟩
    · have HP : Hid (plainB d s = !inS s setsL) := Lib.hid (by unfold plainB; rw [h1, h2]; rfl)
      have H1 := Lib.hid h1; have H2 := Lib.hid h2; clear h1 h2
      go_enter Tryz.func32, Tryz.ntmps32
      go_wp2_with (first
        | (go_at_call 33; refine (great_any _ _).mono ?_; rw [H1.out]; rintro e w1 ⟨rfl, hx1⟩)
        | (go_at_call 52; refine (reserved_any _ _ _ (HT.out.ext hx1)).mono ?_; rw [H2.out]; rintro e w2 ⟨rfl, hx2⟩)
        | (go_at_call 34; refine (sets_any _ _).mono ?_; rintro e w3 ⟨rfl, hx3⟩))
      go_ret
      exact ⟨ret_bool HP.out.symm, ((‹Ext w _›).trans hx2).trans hx3⟩
  · have HP : Hid (plainB d s = false) := Lib.hid (by unfold plainB; rw [h1]; rfl)
    have H1 := Lib.hid h1; clear h1
    go_enter Tryz.func32, Tryz.ntmps32
    go_wp2_with (go_at_call 33; refine (great_any _ _).mono ?_; rw [H1.out]; rintro e w1 ⟨rfl, hx1⟩)
    go_ret
    exact ⟨ret_bool HP.out.symm, ‹_›⟩
end
end Go.Proofs.YtnklmehphmidhaaGreatDoor
