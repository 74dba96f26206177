/- text86: names and words. -/
import Derived.Test.YtnklmehphmidhaaGreatDoorNaa
namespace Go.Proofs.YtnklmehphmidhaaGreatDoor
open Go.RowKit
set_option maxRecDepth 100000
set_option maxHeartbeats 1000000
set_option linter.unusedSimpArgs false
set_option linter.unusedVariables false

theorem load145 {w : World} {g : Nat} {c0 c1 : Value} (h : Blk w g #[c0, c1]) : (loadVar 145 ⟨g, 0, none⟩).run Tryz.prog w = .ok (.agg #[c0, c1]) w := by
  have hc := h.cell
  simp [go_sem, hc]
def ofS (l : List ByteArray) (frm code : Int) : ByteArray := if code < frm ∨ (l.length : Int) ≤ code - frm then ⟨#[]⟩ else l.getD (code - frm).toNat ⟨#[]⟩
theorem wof_any (l : List ByteArray) (v : Value) (frm code : Int) (w : World) (hs : Strs w v l) (hl : l.length ≤ 1000) (hf : 0 ≤ frm ∧ frm ≤ 100) (hc : -1000 ≤ code ∧ code ≤ 1000) :
    Calls Tryz.prog 119 #[.agg #[v, .int .i64 frm], .int .i64 code] w (RStr w (ofS l frm code)) := by
  obtain ⟨A, c, rfl, h1, h2, hcell⟩ := hs.open
  clear hs
  by_cases q1 : code < frm
  · have HR : Hid (ofS l frm code = ⟨#[]⟩) := Lib.hid (if_pos (.inl q1))
    clear hcell
    go_enter Tryz.func119, Tryz.ntmps119
    go_wp2
    go_ret
    exact ⟨by rw [HR.out]; rfl, (Ext.refl _).alloc _⟩
  by_cases q2 : (l.length : Int) ≤ code - frm
  · have HR : Hid (ofS l frm code = ⟨#[]⟩) := Lib.hid (if_pos (.inr q2))
    clear hcell
    go_enter Tryz.func119, Tryz.ntmps119
    go_wp2
    go_ret
    exact ⟨by rw [HR.out]; rfl, (Ext.refl _).alloc _⟩
  · have HR : Hid (ofS l frm code = l.getD (code - frm).toNat ⟨#[]⟩) := Lib.hid (if_neg (by omega))
    obtain ⟨b, o, rfl, hb, hcell⟩ := hcell (by omega)
    have k0 := hcell (code - frm).toNat (by omega)
    generalize l.getD (code - frm).toNat ⟨#[]⟩ = s at *
    clear hcell
    go_enter Tryz.func119, Tryz.ntmps119
    go_wp2
    go_ret
    exact ⟨by rw [HR.out]; rfl, (Ext.refl _).alloc _⟩

/-- Strings elsewhere than in a block of two cells that holds none. -/
theorem strs_set2 {w : World} {v c0 c1 x0 x1 : Value} {l : List ByteArray} {g : Nat} (h : Strs w v l) (hB : Blk w g #[c0, c1]) (n0 : ∀ s, c0 ≠ .string s := by intro s h; cases h) (n1 : ∀ s, c1 ≠ .string s := by intro s h; cases h) :
    Strs ((w.setCell ⟨g, 0, none⟩ x0).setCell ⟨g, 1, none⟩ x1) v l := by
  obtain ⟨A3, c3, hv, h1, h2, h3⟩ := h
  refine ⟨A3, c3, hv, h1, h2, fun hp => ?_⟩
  obtain ⟨b4, o4, h4, h5, h6⟩ := h3 hp
  refine ⟨b4, o4, h4, by simpa using h5, fun j x hx => ?_⟩
  have hne : b4 ≠ g := by
    rintro rfl
    have h7 := h6 0 (l[0]'hp) (List.getElem?_eq_getElem hp)
    rw [hB.cell] at h7
    rcases o4 with _ | _ | o4
    · exact n0 _ (by simpa using h7)
    · exact n1 _ (by simpa using h7)
    · simp at h7
  rw [World.cell?_setCell_other _ _ _ _ (by intro e; injection e with e1 e2; exact hne e1.symm), World.cell?_setCell_other _ _ _ _ (by intro e; injection e with e1 e2; exact hne e1.symm)]
  exact h6 j x hx

theorem lay_any (frm : Int) (l : List ByteArray) (v : Value) (w : World) (hT : Tab w) (hs : Strs w v l) (h0 : 0 < l.length) (j : List UInt8) (hj : Lib.join (l.map (·.data.toList)) [32] = j) (hsz : j.length ≤ 1000) (hascii : ∀ b ∈ j, b.toNat < 128) (F : List (List UInt8)) (hF : Lib.fields j = F) (hF2 : F.length ≤ 1000) (R : List ByteArray) (hR : F.map (fun l => (⟨l.toArray⟩ : ByteArray)) = R) :
    Calls Tryz.prog 160 #[.int .i64 frm, v] w fun e w' => ∃ v', e = .returned (.agg #[v', .int .i64 frm]) ∧ Strs w' v' R ∧ Ext w w' := by
  subst hR
  obtain ⟨A, c, rfl, hc, hc2, hcell⟩ := hs
  obtain ⟨b, o, rfl, hb, hcell⟩ := hcell h0
  have HJ := Lib.hid (Tryz.strings_Join b o c l ⟨#[32]⟩ (w.alloc (.cells #[.slice none 0 0, .int .i64 0] 145)) (fun j x hx => ((Ext.refl w).alloc _).cell (hcell j x hx)) (by simp; omega) (by omega) hc (by show (Lib.join _ [32]).length ≤ _; rw [hj]; omega))
  have HJ2 := Lib.hid hj
  have HF := Lib.hid hF
  have HC := Lib.hid hcell
  clear hj hF hcell
  have HA := Lib.hid hascii; clear hascii
  have HT := Lib.hid hT; clear hT
  go_enter Tryz.func160, Tryz.ntmps160
  go_wp2_with (first
    | (go_at_call 48; refine HJ.out.mono ?_; rintro e w1 ⟨rfl, hx1⟩; rw [show (ByteArray.mk #[32]).data.toList = [32] from rfl, HJ2.out]; have hB1 := (Blk.new w #[.slice none 0 0, .int .i64 0] 145).ext hx1)
    | (go_at_call 145; refine (fields_any j _ (HT.out.ext (((Ext.refl _).alloc _).trans hx1)) hsz HA.out F HF.out hF2).mono ?_; rintro e w2 ⟨A2, c2, rfl, hs2, hx2⟩; have hB2 := hB1.ext hx2; have k := hB2.cell; have f := hB2.frozen; have HS2 := Lib.hid hs2; clear hs2))
  refine bodyPost_ret (res1 rfl _ _ _ w.heap.size _ rfl (load145 ((hB2.put 0 _).put 1 _))) rfl ⟨_, rfl, ?_, ?_⟩
  · have hs3 := HS2.out
    rw [List.length_map] at hs3
    exact strs_set2 hs3 hB2
  · exact (((((Ext.refl w).alloc _).trans hx1).trans hx2).setCell (by simp) _).setCell (by simp) _

def plL : List ByteArray := [⟨#[77, 79, 86]⟩, ⟨#[65, 68, 68]⟩, ⟨#[79, 82]⟩, ⟨#[65, 68, 67]⟩, ⟨#[83, 66, 66]⟩, ⟨#[65, 78, 68]⟩, ⟨#[83, 85, 66]⟩, ⟨#[88, 79, 82]⟩, ⟨#[67, 77, 80]⟩, ⟨#[73, 78, 67]⟩, ⟨#[68, 69, 67]⟩, ⟨#[82, 79, 76]⟩, ⟨#[82, 79, 82]⟩, ⟨#[82, 67, 76]⟩, ⟨#[82, 67, 82]⟩, ⟨#[78, 79, 84]⟩, ⟨#[88, 67, 72, 71]⟩, ⟨#[80, 85, 83, 72]⟩, ⟨#[80, 79, 80]⟩, ⟨#[76, 65, 72, 70]⟩, ⟨#[83, 65, 72, 70]⟩, ⟨#[68, 65, 65]⟩, ⟨#[67, 77, 67]⟩, ⟨#[83, 84, 67]⟩, ⟨#[67, 76, 67]⟩, ⟨#[83, 84, 73]⟩, ⟨#[67, 76, 73]⟩, ⟨#[72, 76, 84]⟩, ⟨#[78, 79, 80]⟩, ⟨#[73, 78]⟩, ⟨#[79, 85, 84]⟩, ⟨#[74, 77, 80]⟩, ⟨#[74, 77, 80, 83]⟩, ⟨#[67, 65, 76, 76]⟩, ⟨#[82, 69, 84]⟩]
def plT : List ByteArray := [⟨([77, 79, 86, 32, 65, 68, 68, 32, 79, 82, 32, 65, 68, 67, 32, 83, 66, 66, 32, 65, 78, 68, 32, 83, 85, 66, 32, 88, 79, 82, 32, 67, 77, 80, 32, 73, 78, 67].append [32, 68, 69, 67, 32, 82, 79, 76, 32, 82, 79, 82, 32, 82, 67, 76, 32, 82, 67, 82, 32, 78, 79, 84, 32, 88, 67, 72, 71, 32, 80, 85, 83, 72, 32, 80, 79, 80]).toArray⟩, ⟨([76, 65, 72, 70, 32, 83, 65, 72, 70, 32, 68, 65, 65, 32, 67, 77, 67, 32, 83, 84, 67, 32, 67, 76, 67, 32, 83, 84, 73, 32, 67, 76, 73].append [32, 72, 76, 84, 32, 78, 79, 80, 32, 73, 78, 32, 79, 85, 84, 32, 74, 77, 80, 32, 74, 77, 80, 83, 32, 67, 65, 76, 76, 32, 82, 69, 84]).toArray⟩]
theorem pl_lay (v : Value) (w : World) (hT : Tab w) (hs : Strs w v plT) : Calls Tryz.prog 160 #[.int .i64 1, v] w fun e w' => ∃ v', e = .returned (.agg #[v', .int .i64 1]) ∧ Strs w' v' plL ∧ Ext w w' :=
  lay_any 1 plT v w hT hs (by decide) _ rfl (by decide +kernel) (by decide +kernel) (plL.map (·.data.toList)) (by decide +kernel) (by decide) _ (by rfl)
theorem pl_strs (W : World) (g : Nat) (hg : g = W.heap.size) : Strs (W.alloc (.cells #[.string ⟨([77, 79, 86, 32, 65, 68, 68, 32, 79, 82, 32, 65, 68, 67, 32, 83, 66, 66, 32, 65, 78, 68, 32, 83, 85, 66, 32, 88, 79, 82, 32, 67, 77, 80, 32, 73, 78, 67].append [32, 68, 69, 67, 32, 82, 79, 76, 32, 82, 79, 82, 32, 82, 67, 76, 32, 82, 67, 82, 32, 78, 79, 84, 32, 88, 67, 72, 71, 32, 80, 85, 83, 72, 32, 80, 79, 80]).toArray⟩, .string ⟨([76, 65, 72, 70, 32, 83, 65, 72, 70, 32, 68, 65, 65, 32, 67, 77, 67, 32, 83, 84, 67, 32, 67, 76, 67, 32, 83, 84, 73, 32, 67, 76, 73].append [32, 72, 76, 84, 32, 78, 79, 80, 32, 73, 78, 32, 79, 85, 84, 32, 74, 77, 80, 32, 74, 77, 80, 83, 32, 67, 65, 76, 76, 32, 82, 69, 84]).toArray⟩] 9)) (.slice (some ⟨g, 0, none⟩) 2 2) plT := by subst hg; exact Strs.alloc W plT (by decide) 9 _ rfl 2 rfl
theorem pl_any (w : World) (hT : Tab w) : Calls Tryz.prog 118 #[] w fun e w' => ∃ v', e = .returned (.agg #[v', .int .i64 1]) ∧ Strs w' v' plL ∧ Ext w w' := by
  have HT := Lib.hid hT; clear hT
  go_enter Tryz.func118, Tryz.ntmps118
  go_wp2_with (go_at_call 160; refine (pl_lay _ _ (HT.out.ext (((Ext.refl w).alloc _).alloc _)) (pl_strs _ _ (by simp))).mono ?_; rintro e w1 ⟨v1, rfl, hs1, hx1⟩; have hB := ((Blk.new w #[.slice none 0 0, .int .i64 0] 145).alloc _).ext hx1; have k := hB.cell; have f := hB.frozen; obtain ⟨A1, c1, rfl, _⟩ := id hs1; have HS1 := Lib.hid hs1; clear hs1; generalize plL.length = n1 at *)
  refine bodyPost_ret (res1 rfl _ _ _ w.heap.size _ rfl (load145 ((hB.put 0 _).put 1 _))) rfl ⟨_, rfl, ?_, ?_⟩
  · exact strs_set2 HS1.out hB
  · exact ((((((Ext.refl w).alloc _).alloc _).trans hx1).setCell (by simp) _).setCell (by simp) _)

def eqL : List ByteArray := [⟨#[74, 66]⟩, ⟨#[74, 78, 66]⟩, ⟨#[74, 90]⟩, ⟨#[74, 78, 90]⟩]
def eqT : List ByteArray := [⟨#[74, 66, 32, 74, 78, 66, 32, 74, 90, 32, 74, 78, 90]⟩]
theorem eq_lay (v : Value) (w : World) (hT : Tab w) (hs : Strs w v eqT) : Calls Tryz.prog 160 #[.int .i64 42, v] w fun e w' => ∃ v', e = .returned (.agg #[v', .int .i64 42]) ∧ Strs w' v' eqL ∧ Ext w w' :=
  lay_any 42 eqT v w hT hs (by decide) _ rfl (by decide +kernel) (by decide +kernel) (eqL.map (·.data.toList)) (by decide +kernel) (by decide) _ (by rfl)
theorem eq_strs (W : World) (g : Nat) (hg : g = W.heap.size) : Strs (W.alloc (.cells #[.string ⟨#[74, 66, 32, 74, 78, 66, 32, 74, 90, 32, 74, 78, 90]⟩] 9)) (.slice (some ⟨g, 0, none⟩) 1 1) eqT := by subst hg; exact Strs.alloc W eqT (by decide) 9 _ rfl 1 rfl
theorem eq_any (w : World) (hT : Tab w) : Calls Tryz.prog 120 #[] w fun e w' => ∃ v', e = .returned (.agg #[v', .int .i64 42]) ∧ Strs w' v' eqL ∧ Ext w w' := by
  have HT := Lib.hid hT; clear hT
  go_enter Tryz.func120, Tryz.ntmps120
  go_wp2_with (go_at_call 160; refine (eq_lay _ _ (HT.out.ext (((Ext.refl w).alloc _).alloc _)) (eq_strs _ _ (by simp))).mono ?_; rintro e w1 ⟨v1, rfl, hs1, hx1⟩; have hB := ((Blk.new w #[.slice none 0 0, .int .i64 0] 145).alloc _).ext hx1; have k := hB.cell; have f := hB.frozen; obtain ⟨A1, c1, rfl, _⟩ := id hs1; have HS1 := Lib.hid hs1; clear hs1; generalize eqL.length = n1 at *)
  refine bodyPost_ret (res1 rfl _ _ _ w.heap.size _ rfl (load145 ((hB.put 0 _).put 1 _))) rfl ⟨_, rfl, ?_, ?_⟩
  · exact strs_set2 HS1.out hB
  · exact ((((((Ext.refl w).alloc _).alloc _).trans hx1).setCell (by simp) _).setCell (by simp) _)

def sgL : List ByteArray := [⟨#[74, 83]⟩, ⟨#[74, 78, 83]⟩, ⟨#[74, 80]⟩, ⟨#[74, 78, 80]⟩]
def sgT : List ByteArray := [⟨#[74, 83, 32, 74, 78, 83, 32, 74, 80, 32, 74, 78, 80]⟩]
theorem sg_lay (v : Value) (w : World) (hT : Tab w) (hs : Strs w v sgT) : Calls Tryz.prog 160 #[.int .i64 48, v] w fun e w' => ∃ v', e = .returned (.agg #[v', .int .i64 48]) ∧ Strs w' v' sgL ∧ Ext w w' :=
  lay_any 48 sgT v w hT hs (by decide) _ rfl (by decide +kernel) (by decide +kernel) (sgL.map (·.data.toList)) (by decide +kernel) (by decide) _ (by rfl)
theorem sg_strs (W : World) (g : Nat) (hg : g = W.heap.size) : Strs (W.alloc (.cells #[.string ⟨#[74, 83, 32, 74, 78, 83, 32, 74, 80, 32, 74, 78, 80]⟩] 9)) (.slice (some ⟨g, 0, none⟩) 1 1) sgT := by subst hg; exact Strs.alloc W sgT (by decide) 9 _ rfl 1 rfl
theorem sg_any (w : World) (hT : Tab w) : Calls Tryz.prog 121 #[] w fun e w' => ∃ v', e = .returned (.agg #[v', .int .i64 48]) ∧ Strs w' v' sgL ∧ Ext w w' := by
  have HT := Lib.hid hT; clear hT
  go_enter Tryz.func121, Tryz.ntmps121
  go_wp2_with (go_at_call 160; refine (sg_lay _ _ (HT.out.ext (((Ext.refl w).alloc _).alloc _)) (sg_strs _ _ (by simp))).mono ?_; rintro e w1 ⟨v1, rfl, hs1, hx1⟩; have hB := ((Blk.new w #[.slice none 0 0, .int .i64 0] 145).alloc _).ext hx1; have k := hB.cell; have f := hB.frozen; obtain ⟨A1, c1, rfl, _⟩ := id hs1; have HS1 := Lib.hid hs1; clear hs1; generalize sgL.length = n1 at *)
  refine bodyPost_ret (res1 rfl _ _ _ w.heap.size _ rfl (load145 ((hB.put 0 _).put 1 _))) rfl ⟨_, rfl, ?_, ?_⟩
  · exact strs_set2 HS1.out hB
  · exact ((((((Ext.refl w).alloc _).alloc _).trans hx1).setCell (by simp) _).setCell (by simp) _)

def arL : List ByteArray := [⟨#[65, 76]⟩, ⟨#[67, 76]⟩, ⟨#[68, 76]⟩, ⟨#[66, 76]⟩, ⟨#[65, 72]⟩, ⟨#[67, 72]⟩, ⟨#[68, 72]⟩, ⟨#[66, 72]⟩, ⟨#[65, 88]⟩, ⟨#[67, 88]⟩, ⟨#[68, 88]⟩, ⟨#[66, 88]⟩, ⟨#[83, 80]⟩, ⟨#[66, 80]⟩, ⟨#[83, 73]⟩, ⟨#[68, 73]⟩, ⟨#[91, 66, 88, 93]⟩, ⟨#[91, 83, 73, 93]⟩, ⟨#[91, 110, 110, 93]⟩, ⟨#[110, 110]⟩]
def arT : List ByteArray := [⟨#[65, 76, 32, 67, 76, 32, 68, 76, 32, 66, 76, 32, 65, 72, 32, 67, 72, 32, 68, 72, 32, 66, 72]⟩, ⟨#[65, 88, 32, 67, 88, 32, 68, 88, 32, 66, 88, 32, 83, 80, 32, 66, 80, 32, 83, 73, 32, 68, 73]⟩, ⟨#[91, 66, 88, 93, 32, 91, 83, 73, 93, 32, 91, 110, 110, 93, 32, 110, 110]⟩]
theorem ar_lay (v : Value) (w : World) (hT : Tab w) (hs : Strs w v arT) : Calls Tryz.prog 160 #[.int .i64 1, v] w fun e w' => ∃ v', e = .returned (.agg #[v', .int .i64 1]) ∧ Strs w' v' arL ∧ Ext w w' :=
  lay_any 1 arT v w hT hs (by decide) _ rfl (by decide +kernel) (by decide +kernel) (arL.map (·.data.toList)) (by decide +kernel) (by decide) _ (by rfl)
theorem ar_strs (W : World) (g : Nat) (hg : g = W.heap.size) : Strs (W.alloc (.cells #[.string ⟨#[65, 76, 32, 67, 76, 32, 68, 76, 32, 66, 76, 32, 65, 72, 32, 67, 72, 32, 68, 72, 32, 66, 72]⟩, .string ⟨#[65, 88, 32, 67, 88, 32, 68, 88, 32, 66, 88, 32, 83, 80, 32, 66, 80, 32, 83, 73, 32, 68, 73]⟩, .string ⟨#[91, 66, 88, 93, 32, 91, 83, 73, 93, 32, 91, 110, 110, 93, 32, 110, 110]⟩] 9)) (.slice (some ⟨g, 0, none⟩) 3 3) arT := by subst hg; exact Strs.alloc W arT (by decide) 9 _ rfl 3 rfl
theorem ar_any (w : World) (hT : Tab w) : Calls Tryz.prog 122 #[] w fun e w' => ∃ v', e = .returned (.agg #[v', .int .i64 1]) ∧ Strs w' v' arL ∧ Ext w w' := by
  have HT := Lib.hid hT; clear hT
  go_enter Tryz.func122, Tryz.ntmps122
  go_wp2_with (go_at_call 160; refine (ar_lay _ _ (HT.out.ext (((Ext.refl w).alloc _).alloc _)) (ar_strs _ _ (by simp))).mono ?_; rintro e w1 ⟨v1, rfl, hs1, hx1⟩; have hB := ((Blk.new w #[.slice none 0 0, .int .i64 0] 145).alloc _).ext hx1; have k := hB.cell; have f := hB.frozen; obtain ⟨A1, c1, rfl, _⟩ := id hs1; have HS1 := Lib.hid hs1; clear hs1; generalize arL.length = n1 at *)
  refine bodyPost_ret (res1 rfl _ _ _ w.heap.size _ rfl (load145 ((hB.put 0 _).put 1 _))) rfl ⟨_, rfl, ?_, ?_⟩
  · exact strs_set2 HS1.out hB
  · exact ((((((Ext.refl w).alloc _).alloc _).trans hx1).setCell (by simp) _).setCell (by simp) _)


theorem jumps86_any (op d s n : Int) (w : World) : Calls Tryz.prog 72 #[.agg #[.int .i64 op, .int .i64 d, .int .i64 s, .int .u16 n]] w (RBool w (jumps86 op)) := by
  have HJ := Lib.hid (show jumps86 op = (op == 32 || op == 33 || op == 34 || op == 42 || op == 43 || op == 44 || op == 45 || op == 48 || op == 49 || op == 50 || op == 51) from rfl)
  go_enter Tryz.func72, Tryz.ntmps72
  go_wp2
  all_goals
    go_ret
    refine ⟨?_, (Ext.refl _).alloc _⟩
    rw [HJ.out]
    simp [*]

/-- A name out of three tables. -/
def nm3 (op : Nat) : Bool := (ofS plL 1 op ++ ofS eqL 42 op ++ ofS sgL 48 op).data.toList == (name86 op).data.toList
theorem nm3_all : (List.range 56).all nm3 = true := by decide +kernel
def ag3 (c : Nat) : Bool := (ofS arL 1 c).data.toList == (arg86 c).data.toList
theorem ag3_all : (List.range 56).all ag3 = true := by decide +kernel
theorem ba_of {a b : ByteArray} (h : (a.data.toList == b.data.toList) = true) : a = b := by
  have h' : a.data.toList = b.data.toList := by simpa using h
  exact ByteArray.ext (Array.ext' h')
theorem nm3_at {op : Int} (h0 : 0 ≤ op) (h1 : op ≤ 55) : ofS plL 1 op ++ ofS eqL 42 op ++ ofS sgL 48 op = name86 op := by
  obtain ⟨k, rfl⟩ := Int.eq_ofNat_of_zero_le h0
  exact ba_of (List.all_eq_true.1 nm3_all k (List.mem_range.2 (by omega)))
def sz3 (op : Nat) : Bool := decide ((ofS plL 1 op).size ≤ 100) && decide ((ofS eqL 42 op).size ≤ 100) && decide ((ofS sgL 48 op).size ≤ 100)
theorem sz3_all : (List.range 56).all sz3 = true := by decide +kernel
theorem sz3_at {op : Int} (h0 : 0 ≤ op) (h1 : op ≤ 55) : (ofS plL 1 op).size ≤ 100 ∧ (ofS eqL 42 op).size ≤ 100 ∧ (ofS sgL 48 op).size ≤ 100 := by
  obtain ⟨k, rfl⟩ := Int.eq_ofNat_of_zero_le h0
  have h := List.all_eq_true.1 sz3_all k (List.mem_range.2 (by omega))
  unfold sz3 at h
  simp only [Bool.and_eq_true, decide_eq_true_eq] at h
  exact ⟨h.1.1, h.1.2, h.2⟩
theorem ag3_at {c : Int} (h0 : 0 ≤ c) (h1 : c ≤ 55) : ofS arL 1 c = arg86 c := by
  obtain ⟨k, rfl⟩ := Int.eq_ofNat_of_zero_le h0
  exact ba_of (List.all_eq_true.1 ag3_all k (List.mem_range.2 (by omega)))

theorem field145 (A : Option Addr) (n c : Nat) (f : Int) (w : World) : (Instr.field 145 (.agg #[.slice A n c, .int .i64 f]) 0).run Tryz.prog w = .ok (.agg #[.slice A n c, .int .i64 f]) w := by kernel_rfl
theorem arg86_any (c : Int) (h0 : 0 ≤ c) (h1 : c ≤ 55) (w : World) (hT : Tab w) : Calls Tryz.prog 74 #[.int .i64 c] w (RStr w (arg86 c)) := by
  have HR := Lib.hid (ag3_at h0 h1)
  have HT := Lib.hid hT; clear hT
  have hfld := field145
  go_enter Tryz.func74, Tryz.ntmps74
  go_wp2_with (first
    | (go_at_call 122; refine (ar_any _ HT.out).mono ?_; rintro e w1 ⟨v1, rfl, hs1, hx1⟩; obtain ⟨A1, c1, rfl, _⟩ := id hs1; have HS1 := Lib.hid hs1; clear hs1; generalize arL.length = n1 at *)
    | (go_at_call 119; refine (wof_any arL _ 1 c _ HS1.out (by decide) (by omega) (by omega)).mono ?_; rw [HR.out]; rintro e w2 ⟨rfl, hx2⟩))
  go_ret
  exact ⟨rfl, hx1.trans hx2⟩

theorem name86_any (op : Int) (h0 : 0 ≤ op) (h1 : op ≤ 55) (w : World) (hT : Tab w) : Calls Tryz.prog 73 #[.int .i64 op] w (RStr w (name86 op)) := by
  have HR := Lib.hid (nm3_at h0 h1)
  obtain ⟨z1, z2, z3⟩ := sz3_at h0 h1
  have HT := Lib.hid hT; clear hT
  obtain ⟨x, hx⟩ : ∃ x, ofS plL 1 op = x := ⟨_, rfl⟩
  obtain ⟨y, hy⟩ : ∃ y, ofS eqL 42 op = y := ⟨_, rfl⟩
  obtain ⟨z, hz⟩ : ∃ z, ofS sgL 48 op = z := ⟨_, rfl⟩
  rw [hx, hy, hz] at HR
  rw [hx] at z1; rw [hy] at z2; rw [hz] at z3
  have HX := Lib.hid hx; have HY := Lib.hid hy; have HZ := Lib.hid hz
  clear hx hy hz
  generalize name86 op = nm at *
  have hfld := field145
  go_enter Tryz.func73, Tryz.ntmps73
  go_wp2_with (first
    | (go_at_call 118; (with_reducible refine (pl_any _ HT.out).mono ?_); rintro e w1 ⟨v1, rfl, hs1, hx1⟩; obtain ⟨A1, c1, rfl, _⟩ := id hs1; have HS1 := Lib.hid hs1; clear hs1; generalize plL.length = n1 at *)
    | (go_at_call 119; (with_reducible refine (wof_any plL _ 1 op _ HS1.out (by decide) (by omega) (by omega)).mono ?_); rw [HX.out]; rintro e w2 ⟨rfl, hx2⟩)
    | (go_at_call 120; (with_reducible refine (eq_any _ (HT.out.ext (hx1.trans hx2))).mono ?_); rintro e w3 ⟨v3, rfl, hs3, hx3⟩; obtain ⟨A3, c3, rfl, _⟩ := id hs3; have HS3 := Lib.hid hs3; clear hs3; generalize eqL.length = n3 at *)
    | (go_at_call 119; (with_reducible refine (wof_any eqL _ 42 op _ HS3.out (by decide) (by omega) (by omega)).mono ?_); rw [HY.out]; rintro e w4 ⟨rfl, hx4⟩)
    | (go_at_call 121; (with_reducible refine (sg_any _ (HT.out.ext ((hx1.trans hx2).trans (hx3.trans hx4)))).mono ?_); rintro e w5 ⟨v5, rfl, hs5, hx5⟩; obtain ⟨A5, c5, rfl, _⟩ := id hs5; have HS5 := Lib.hid hs5; clear hs5; generalize sgL.length = n5 at *)
    | (go_at_call 119; (with_reducible refine (wof_any sgL _ 48 op _ HS5.out (by decide) (by omega) (by omega)).mono ?_); rw [HZ.out]; rintro e w6 ⟨rfl, hx6⟩))
  go_ret
  refine ⟨by rw [← HR.out]; rfl, ((hx1.trans hx2).trans (hx3.trans hx4)).trans (hx5.trans hx6)⟩
end Go.Proofs.YtnklmehphmidhaaGreatDoor
