/- zilog: forms, names, operands. -/
import Derived.Test.YtnklmehphmidhaaGreatDoorMc
import Derived.Test.YtnklmehphmidhaaGreatDoorShelf
import Derived.WalkSmall
namespace Go.Proofs.YtnklmehphmidhaaGreatDoor
section
set_option linter.unusedVariables false
open Go.RowKit
set_option maxRecDepth 100000
set_option maxHeartbeats 4000000
set_option linter.unusedSimpArgs false

/-- The library's table of white space holds what it was laid with. -/
def Tab (w : World) : Prop := Lib.TabIs Tryz.prog w "strings.asciiSpace" .u8 Lib.asciiSpaceTab
theorem gTab : ∃ g, Tryz.prog.globalNamed "strings.asciiSpace" = some g := ⟨0, by kernel_rfl⟩
theorem Tab.ext {w w' : World} (h : Tab w) (hx : Ext w w') : Tab w' := by
  obtain ⟨g, hg⟩ := gTab
  refine var?_below hx hg ?_ h
  unfold Tab Lib.TabIs World.var? at h
  rw [hg] at h
  simp only [Option.bind_some] at h
  rcases Nat.lt_or_ge g w.heap.size with hlt | hge
  · exact hlt
  · rw [Array.getElem?_eq_none hge] at h; simp at h

def condTxt : ByteArray := ⟨#[78, 90, 32, 90, 32, 78, 67, 32, 67, 32, 80, 79, 32, 80, 69, 32, 80, 32, 77]⟩
theorem fields_cond (w : World) (hT : Tab w) : Calls Tryz.prog 145 #[.string ⟨#[78, 90, 32, 90, 32, 78, 67, 32, 67, 32, 80, 79, 32, 80, 69, 32, 80, 32, 77]⟩] w fun e w' => ∃ v, e = .returned v ∧ Strs w' v condL ∧ Ext w w' := by
  refine (Tryz.strings_Fields _ w (by decide) (by intro j b h; have : b ∈ [78, 90, 32, 90, 32, 78, 67, 32, 67, 32, 80, 79, 32, 80, 69, 32, 80, 32, 77] := List.mem_of_getElem? h; clear h; revert b; decide) hT).mono ?_
  rintro e w' ⟨rfl, rfl⟩
  have hF : Lib.fields [78, 90, 32, 90, 32, 78, 67, 32, 67, 32, 80, 79, 32, 80, 69, 32, 80, 32, 77] = [[78, 90], [90], [78, 67], [67], [80, 79], [80, 69], [80], [77]] := by decide
  simp only [hF]
  exact ⟨_, rfl, Strs.mk8 .., (Ext.refl _).alloc _⟩

/-- 'string([]byte{x, y})' of a new row of two bytes. -/
theorem conv2 (w : World) (g : Nat) (hg : g = w.heap.size) (x y : Int) : (convert 22 9 (.slice (some ⟨g, 0, none⟩) 2 2)).run Tryz.prog (w.alloc (.cells #[.int .u8 x, .int .u8 y] 5)) = .ok (.string (strOfNums [x, y])) (w.alloc (.cells #[.int .u8 x, .int .u8 y] 5)) := by
  subst hg
  refine run_convert_bytes_arg (P := Tryz.prog) _ 22 5 Tryz.underlying22 Tryz.underlying5 _ 0 2 2 [x, y] rfl (fun i hi => ?_) 9 Tryz.underlying9
  obtain rfl | rfl : i = 0 ∨ i = 1 := by omega
  · rw [World.cell?_alloc_at _ _ _ _ rfl]; rfl
  · rw [World.cell?_alloc_at _ _ _ _ rfl]; rfl

def rstS (op : Int) : ByteArray := ⟨(Lib.trimPrefix (strOfNums [48 + bits .and .u8 op 56 / 10, 48 + bits .and .u8 op 56 % 10]).data.toList [48]).toArray⟩
def ccS (op : Int) : ByteArray := condL.getD (condI op).toNat ⟨#[]⟩
def fst (s : ByteArray) : Int := ((s.data.toList.getD 0 0).toNat : Int)
def formS (op : Int) : List ByteArray :=
  if isS (nameOf (wordsS op)) [] = true then []
  else if 0 ≤ condI op then
    (if (fst (nameOf (wordsS op)) == 82) = true then [⟨#[82, 69, 84]⟩, ccS op]
     else if (fst (nameOf (wordsS op)) == 74) = true then [⟨#[74, 80]⟩, ccS op, ⟨#[110, 110]⟩]
     else [⟨#[67, 65, 76, 76]⟩, ccS op, ⟨#[110, 110]⟩])
  else if (bits .and .u8 op 199 == 199) = true then [⟨#[82, 83, 84]⟩, rstS op]
  else if (op / 64 == 2) = true ∨ (bits .and .u8 op 199 == 198) = true then sumsS (nameOf (wordsS op)) (argS ((wordsS op).tail.getD 0 ⟨#[]⟩))
  else if loadsS (nameOf (wordsS op)) (wordsS op).tail = [] then plainS (nameOf (wordsS op))
  else loadsS (nameOf (wordsS op)) (wordsS op).tail

def formOk (op : Int) : Bool :=
  decide (loadsN (nameOf (wordsS op)) ≤ (wordsS op).tail.length) && decide (((wordsS op).tail.getD 0 ⟨#[]⟩).size ≤ 100) && decide ((nameOf (wordsS op)).size ≤ 100)
    && decide (0 ≤ bits .and .u8 op 56) && decide (bits .and .u8 op 56 ≤ 56) && decide (condI op < 8)
    && (isS (nameOf (wordsS op)) [] || decide (0 < (nameOf (wordsS op)).size))
    && (isS (nameOf (wordsS op)) [] || !(op / 64 == 2 || bits .and .u8 op 199 == 198) || decide (0 < (wordsS op).tail.length))
theorem formOk_all : (List.range 256).all (fun k => formOk (k : Nat)) = true := by kernel_rfl
theorem formOk_at (op : Int) (h0 : 0 ≤ op) (h1 : op < 256) : formOk op = true := by
  obtain ⟨n, rfl⟩ := Int.eq_ofNat_of_zero_le h0
  exact List.all_eq_true.1 formOk_all n (List.mem_range.2 (by omega))
theorem fields_cond8 (w : World) (cd : Int) (h0 : 0 ≤ cd) (h1 : cd < 8) (hT : Tab w) : Calls Tryz.prog 145 #[.string ⟨#[78, 90, 32, 90, 32, 78, 67, 32, 67, 32, 80, 79, 32, 80, 69, 32, 80, 32, 77]⟩] w fun e w' => ∃ b, e = .returned (.slice (some ⟨b, 0, none⟩) 8 8) ∧ w'.cell? ⟨b, cd.toNat, none⟩ = some (.string (condL.getD cd.toNat ⟨#[]⟩)) ∧ Ext w w' := by
  refine (Tryz.strings_Fields _ w (by decide) (by intro j b h; have : b ∈ [78, 90, 32, 90, 32, 78, 67, 32, 67, 32, 80, 79, 32, 80, 69, 32, 80, 32, 77] := List.mem_of_getElem? h; clear h; revert b; decide) hT).mono ?_
  rintro e w' ⟨rfl, rfl⟩
  have hF : Lib.fields [78, 90, 32, 90, 32, 78, 67, 32, 67, 32, 80, 79, 32, 80, 69, 32, 80, 32, 77] = [[78, 90], [90], [78, 67], [67], [80, 79], [80, 69], [80], [77]] := by decide
  simp only [hF]
  refine ⟨_, rfl, ?_, (Ext.refl _).alloc _⟩
  rw [World.cell?_alloc_at _ _ _ _ rfl]
  obtain ⟨n, rfl⟩ := Int.eq_ofNat_of_zero_le h0
  have : ∀ n : Nat, n < 8 → (List.map (fun l => Value.string ⟨l.toArray⟩) [[78, 90], [90], [78, 67], [67], [80, 79], [80, 69], [80], [77]]).toArray[n]? = some (.string (condL.getD n ⟨#[]⟩)) := by
    intro n hn
    obtain rfl | rfl | rfl | rfl | rfl | rfl | rfl | rfl : n = 0 ∨ n = 1 ∨ n = 2 ∨ n = 3 ∨ n = 4 ∨ n = 5 ∨ n = 6 ∨ n = 7 := by omega
    all_goals rfl
  exact this n (by omega)

/-- A list's first place, read. -/
theorem Strs.first {w : World} {v : Value} {l : List ByteArray} (h : Strs w v l) (hl : 0 < l.length) : ∃ b o c, v = .slice (some ⟨b, o, none⟩) l.length c ∧ w.cell? ⟨b, o, none⟩ = some (.string (l.getD 0 ⟨#[]⟩)) := by
  obtain ⟨A, c, rfl, h1, h2, h3⟩ := h.open
  obtain ⟨b, o, rfl, hlt, hc⟩ := h3 hl
  exact ⟨b, o, c, rfl, hc 0 hl⟩

/-- A list that is not empty has a place. -/
theorem Strs.some {w : World} {v : Value} {l : List ByteArray} (h : Strs w v l) (hl : l ≠ []) : ∃ a c, v = .slice (some a) l.length c := by
  obtain ⟨A, c, rfl, h1, h2, h3⟩ := h
  obtain ⟨b, o, rfl, _⟩ := h3 (by cases l with | nil => exact absurd rfl hl | cons _ _ => simp)
  exact ⟨_, _, rfl⟩

theorem fst_at (s : ByteArray) (h : 0 < s.size) : ((s[0]'h).toNat : Int) = fst s := by
  unfold fst
  congr 2
  rw [List.getD_eq_getElem?_getD, List.getElem?_eq_getElem (by simpa using h)]
  rfl

theorem zform_any (op : Int) (h0 : 0 ≤ op) (h1 : op < 256) (w : World) (hT : Tab w) :
    Calls Tryz.prog 124 #[.int .u8 op] w (RStrs w (formS op)) := by
  have ok := formOk_at op h0 h1
  simp only [formOk, Bool.and_eq_true, decide_eq_true_eq, Bool.or_eq_true, Bool.not_eq_true'] at ok
  obtain ⟨⟨⟨⟨⟨⟨⟨o1, o2⟩, o3⟩, o4⟩, o5⟩, o6⟩, o7⟩, o8⟩ := ok
  unfold formS rstS ccS
  generalize hnm : nameOf (wordsS op) = name at *
  generalize ha : (wordsS op).tail = a at *
  generalize hcd : condI op = cd at *
  generalize hb1 : bits .and .u8 op 56 = n56 at *
  generalize hb2 : bits .and .u8 op 199 = n199 at *
  rw [isS_eq] at *
  have HNM := Lib.hid hnm; have HA := Lib.hid ha; have HCD := Lib.hid hcd
  clear hnm ha hcd
  have HT := Lib.hid hT; clear hT
  have hcv := conv2
  have hnil : ∀ (w : World) a n c, (binOp .neq 79 (.slice a n c) (.slice none 0 0)).run Tryz.prog w = .ok (.bool (!a.isNone)) w := fun w a n c => run_neq_slice_nil_any w 79 9 a n c 0 0 Tryz.underlying79
  have hdv : n56.tdiv 10 = n56 / 10 := Int.tdiv_eq_ediv_of_nonneg o4
  have hmd : n56.tmod 10 = n56 % 10 := Int.tmod_eq_emod_of_nonneg o4
  cases e1 : (name.toList == [])
  · have hn0 : 0 < name.size := by simpa [e1] using o7
    have e1' : name.toList.isEmpty = false := by rw [← e1]; cases name.toList <;> rfl
    have hA := fst_at name hn0
    by_cases c0 : 0 ≤ cd
    · have c0' : decide (0 ≤ cd) = true := by simp [c0]
      clear hcv hdv hmd
      generalize hfs : fst name = fs at *
      clear hfs
      cases r1 : (fs == 82)
      · cases r2 : (fs == 74)
        · go_enter Tryz.func124, Tryz.ntmps124
          go_wp2_with (first
            | (go_at_call 77; refine (name_any _ (by omega) (by omega) _).mono ?_; rw [HNM.out]; rintro e w1 ⟨rfl, hx1⟩)
            | (go_at_call 78; refine (args_any _ (by omega) (by omega) _).mono ?_; rw [HA.out]; rintro e w2 ⟨v, rfl, hs, hx2⟩)
            | (go_at_call 123; refine (condI_any _ (by omega) (by omega) _).mono ?_; rw [HCD.out]; rintro e w3 ⟨rfl, hx3⟩)
            | (go_at_call 145; refine (fields_cond8 _ cd (by omega) (by omega) (HT.out.ext (hx1.trans (hx2.trans hx3)))).mono ?_; rintro e w4 ⟨b, rfl, cc, hx4⟩)
            | (go_at_call 161; (with_reducible refine (zwords_any _ _).mono ?_); rintro e w' ⟨rfl, rfl⟩))
          go_ret
          first
            | (refine RStrs.m2 (by simp) ?_ ?_; (repeat (first | exact Ext.refl _ | assumption | apply Ext.alloc | (refine Ext.trans ?_ (by assumption)))); simp [*]; done)
            | (refine RStrs.m3 (by simp) ?_ ?_; (repeat (first | exact Ext.refl _ | assumption | apply Ext.alloc | (refine Ext.trans ?_ (by assumption)))); simp [*]; done)
        · go_enter Tryz.func124, Tryz.ntmps124
          go_wp2_with (first
            | (go_at_call 77; refine (name_any _ (by omega) (by omega) _).mono ?_; rw [HNM.out]; rintro e w1 ⟨rfl, hx1⟩)
            | (go_at_call 78; refine (args_any _ (by omega) (by omega) _).mono ?_; rw [HA.out]; rintro e w2 ⟨v, rfl, hs, hx2⟩)
            | (go_at_call 123; refine (condI_any _ (by omega) (by omega) _).mono ?_; rw [HCD.out]; rintro e w3 ⟨rfl, hx3⟩)
            | (go_at_call 145; refine (fields_cond8 _ cd (by omega) (by omega) (HT.out.ext (hx1.trans (hx2.trans hx3)))).mono ?_; rintro e w4 ⟨b, rfl, cc, hx4⟩)
            | (go_at_call 161; (with_reducible refine (zwords_any _ _).mono ?_); rintro e w' ⟨rfl, rfl⟩))
          go_ret
          first
            | (refine RStrs.m2 (by simp) ?_ ?_; (repeat (first | exact Ext.refl _ | assumption | apply Ext.alloc | (refine Ext.trans ?_ (by assumption)))); simp [*]; done)
            | (refine RStrs.m3 (by simp) ?_ ?_; (repeat (first | exact Ext.refl _ | assumption | apply Ext.alloc | (refine Ext.trans ?_ (by assumption)))); simp [*]; done)
      · go_enter Tryz.func124, Tryz.ntmps124
        go_wp2_with (first
          | (go_at_call 77; refine (name_any _ (by omega) (by omega) _).mono ?_; rw [HNM.out]; rintro e w1 ⟨rfl, hx1⟩)
          | (go_at_call 78; refine (args_any _ (by omega) (by omega) _).mono ?_; rw [HA.out]; rintro e w2 ⟨v, rfl, hs, hx2⟩)
          | (go_at_call 123; refine (condI_any _ (by omega) (by omega) _).mono ?_; rw [HCD.out]; rintro e w3 ⟨rfl, hx3⟩)
          | (go_at_call 145; refine (fields_cond8 _ cd (by omega) (by omega) (HT.out.ext (hx1.trans (hx2.trans hx3)))).mono ?_; rintro e w4 ⟨b, rfl, cc, hx4⟩)
          | (go_at_call 161; (with_reducible refine (zwords_any _ _).mono ?_); rintro e w' ⟨rfl, rfl⟩))
        go_ret
        first
          | (refine RStrs.m2 (by simp) ?_ ?_; (repeat (first | exact Ext.refl _ | assumption | apply Ext.alloc | (refine Ext.trans ?_ (by assumption)))); simp [*]; done)
          | (refine RStrs.m3 (by simp) ?_ ?_; (repeat (first | exact Ext.refl _ | assumption | apply Ext.alloc | (refine Ext.trans ?_ (by assumption)))); simp [*]; done)
    · have c1 : cd < 0 := by omega
      clear hA
      cases r1 : (n199 == 199)
      · cases r2 : (op / 64 == 2)
        · cases r3 : (n199 == 198)
          · clear hcv hdv hmd
            by_cases hl : loadsS name a = []
            · have HL := Lib.hid hl
              clear hl
              go_enter Tryz.func124, Tryz.ntmps124
              go_wp2_with (first
                | (go_at_call 77; refine (name_any _ (by omega) (by omega) _).mono ?_; rw [HNM.out]; rintro e w1 ⟨rfl, hx1⟩)
                | (go_at_call 78; refine (args_any _ (by omega) (by omega) _).mono ?_; rw [HA.out]; rintro e w2 ⟨v, rfl, hs, hx2⟩)
                | (go_at_call 123; refine (condI_any _ (by omega) (by omega) _).mono ?_; rw [HCD.out]; rintro e w3 ⟨rfl, hx3⟩)
                | (go_at_call 165; refine (loads_any _ _ _ _ (hs.ext hx3) o1 o2).mono ?_; rw [HL.out]; rintro e w4 ⟨r, rfl, hs4, hn4, hx4⟩; obtain rfl := hn4 rfl)
                | (go_at_call 166; refine (plain_any _ (by omega) _).mono ?_; rintro e w5 ⟨v5, rfl, hs5, hx5⟩))
              go_ret
              refine ⟨_, rfl, ?_, ?_⟩
              · first | (simp [*]; done) | (simp [*]; exact hs5)
              · (repeat (first | exact Ext.refl _ | assumption | apply Ext.alloc | (refine Ext.trans ?_ (by assumption))))
            · have HL := Lib.hid hl
              clear hl
              go_enter Tryz.func124, Tryz.ntmps124
              go_wp2_with (first
                | (go_at_call 77; refine (name_any _ (by omega) (by omega) _).mono ?_; rw [HNM.out]; rintro e w1 ⟨rfl, hx1⟩)
                | (go_at_call 78; refine (args_any _ (by omega) (by omega) _).mono ?_; rw [HA.out]; rintro e w2 ⟨v, rfl, hs, hx2⟩)
                | (go_at_call 123; refine (condI_any _ (by omega) (by omega) _).mono ?_; rw [HCD.out]; rintro e w3 ⟨rfl, hx3⟩)
                | (go_at_call 165; refine (loads_any _ _ _ _ (hs.ext hx3) o1 o2).mono ?_; rintro e w4 ⟨r, rfl, hs4, hn4, hx4⟩; obtain ⟨g4, c4, rfl⟩ := hs4.some HL.out))
              go_ret
              refine ⟨_, rfl, ?_, ?_⟩
              · first | (simp [*, HL.out]; done) | (simp [*, HL.out]; exact hs4)
              · (repeat (first | exact Ext.refl _ | assumption | apply Ext.alloc | (refine Ext.trans ?_ (by assumption))))
          · have hap : 0 < a.length := by simpa [e1, r2, r3] using o8
            have hap2 : (0 : Int) < (a.length : Int) := by omega
            clear hcv hdv hmd hnil
            go_enter Tryz.func124, Tryz.ntmps124
            go_wp2_with (first
              | (go_at_call 77; refine (name_any _ (by omega) (by omega) _).mono ?_; rw [HNM.out]; rintro e w1 ⟨rfl, hx1⟩)
              | (go_at_call 78; refine (args_any _ (by omega) (by omega) _).mono ?_; rw [HA.out]; rintro e w2 ⟨v, rfl, hs, hx2⟩; obtain ⟨b, o, c, rfl, q2⟩ := hs.first hap; clear hs)
              | (go_at_call 123; refine (condI_any _ (by omega) (by omega) _).mono ?_; rw [HCD.out]; rintro e w3 ⟨rfl, hx3⟩; have q3 := hx3.cell q2)
              | (go_at_call 164; (with_reducible refine (zarg_any _ _).mono ?_); rintro e w4 ⟨rfl, rfl⟩)
              | (go_at_call 163; refine (sums_any _ _ _).mono ?_; rintro e w4 ⟨v4, rfl, hs4, hx4⟩))
            go_ret
            refine ⟨_, rfl, ?_, ?_⟩
            · first | (simp [*]; done) | (simp [*]; exact hs4)
            · (repeat (first | exact Ext.refl _ | assumption | apply Ext.alloc | (refine Ext.trans ?_ (by assumption))))
        · have hap : 0 < a.length := by simpa [e1, r2] using o8
          have hap2 : (0 : Int) < (a.length : Int) := by omega
          clear hcv hdv hmd hnil
          go_enter Tryz.func124, Tryz.ntmps124
          go_wp2_with (first
            | (go_at_call 77; refine (name_any _ (by omega) (by omega) _).mono ?_; rw [HNM.out]; rintro e w1 ⟨rfl, hx1⟩)
            | (go_at_call 78; refine (args_any _ (by omega) (by omega) _).mono ?_; rw [HA.out]; rintro e w2 ⟨v, rfl, hs, hx2⟩; obtain ⟨b, o, c, rfl, q2⟩ := hs.first hap; clear hs)
            | (go_at_call 123; refine (condI_any _ (by omega) (by omega) _).mono ?_; rw [HCD.out]; rintro e w3 ⟨rfl, hx3⟩; have q3 := hx3.cell q2)
            | (go_at_call 164; (with_reducible refine (zarg_any _ _).mono ?_); rintro e w4 ⟨rfl, rfl⟩)
            | (go_at_call 163; refine (sums_any _ _ _).mono ?_; rintro e w4 ⟨v4, rfl, hs4, hx4⟩))
          go_ret
          refine ⟨_, rfl, ?_, ?_⟩
          · first | (simp [*]; done) | (simp [*]; exact hs4)
          · (repeat (first | exact Ext.refl _ | assumption | apply Ext.alloc | (refine Ext.trans ?_ (by assumption))))
      · clear hnil
        go_enter Tryz.func124, Tryz.ntmps124
        go_wp2_with (first
          | (go_at_call 77; refine (name_any _ (by omega) (by omega) _).mono ?_; rw [HNM.out]; rintro e w1 ⟨rfl, hx1⟩)
          | (go_at_call 78; refine (args_any _ (by omega) (by omega) _).mono ?_; rw [HA.out]; rintro e w2 ⟨v, rfl, hs, hx2⟩)
          | (go_at_call 123; refine (condI_any _ (by omega) (by omega) _).mono ?_; rw [HCD.out]; rintro e w3 ⟨rfl, hx3⟩)
          | (go_at_call 162; refine (Tryz.strings_TrimPrefix _ _ _).mono ?_; rintro e w4 ⟨rfl, rfl⟩)
          | (go_at_call 161; (with_reducible refine (zwords_any _ _).mono ?_); rintro e w' ⟨rfl, rfl⟩))
        go_ret
        refine RStrs.m2 (by simp) ?_ ?_
        · (repeat (first | exact Ext.refl _ | assumption | apply Ext.alloc | (refine Ext.trans ?_ (by assumption))))
        · simp [*]
  · clear hcv hdv hmd hnil
    have e1' : name.toList.isEmpty = true := by rw [← e1]; cases name.toList <;> rfl
    go_enter Tryz.func124, Tryz.ntmps124
    go_wp2_with (first
      | (go_at_call 77; refine (name_any _ (by omega) (by omega) _).mono ?_; rw [HNM.out]; rintro e w1 ⟨rfl, hx1⟩)
      | (go_at_call 78; refine (args_any _ (by omega) (by omega) _).mono ?_; rw [HA.out]; rintro e w2 ⟨v, rfl, hs, hx2⟩)
      | (go_at_call 123; refine (condI_any _ (by omega) (by omega) _).mono ?_; rw [HCD.out]; rintro e w3 ⟨rfl, hx3⟩))
    go_ret
    refine RStrs.m0 ?_ ?_
    · (repeat (first | exact Ext.refl _ | assumption | apply Ext.alloc | (refine Ext.trans ?_ (by assumption))))
    · simp [*]
end

section
set_option linter.unusedVariables false
open Go.RowKit
set_option maxRecDepth 100000
set_option maxHeartbeats 4000000
set_option linter.unusedSimpArgs false

theorem zname_any (op : Int) (h0 : 0 ≤ op) (h1 : op < 256) (w : World) (hT : Tab w) : Calls Tryz.prog 79 #[.int .u8 op] w (RStr w (nameOf (formS op))) := by
  generalize hl : formS op = l
  have HL := Lib.hid hl; clear hl
  go_enter Tryz.func79, Tryz.ntmps79
  go_wp2_with fail
  refine (zform_any _ h0 h1 _ hT).mono ?_
  rintro e w1 ⟨v, rfl, hs, hx⟩
  rw [HL.out] at hs
  obtain ⟨A, c, rfl, hc1, hc2, h3⟩ := hs.open
  clear hs
  by_cases hp : 0 < l.length
  · obtain ⟨b, o, rfl, hlt, hc⟩ := h3 hp
    have hc0 := hc 0 hp
    simp only [Nat.add_zero] at hc0
    generalize hn : l.getD 0 ⟨#[]⟩ = n at *
    have HN := Lib.hid hn; clear hn hc h3
    generalize l.length = L at *
    go_wp2
    go_ret
    exact ⟨by rw [← HN.out]; rfl, hx⟩
  · have hz : l.length = 0 := by omega
    have HZ := Lib.hid hz
    rw [hz]; clear hz h3 hc1 hp
    go_wp2
    go_ret
    exact ⟨by rw [show l = [] from List.eq_nil_of_length_eq_zero HZ.out]; rfl, hx⟩
theorem zargs_any (op : Int) (h0 : 0 ≤ op) (h1 : op < 256) (w : World) (hT : Tab w) : Calls Tryz.prog 80 #[.int .u8 op] w (RStrs w (formS op).tail) := by
  generalize hl : formS op = l
  have HL := Lib.hid hl; clear hl
  go_enter Tryz.func80, Tryz.ntmps80
  go_wp2_with fail
  refine (zform_any _ h0 h1 _ hT).mono ?_
  rintro e w1 ⟨v, rfl, hs, hx⟩
  rw [HL.out] at hs
  obtain ⟨A, c, rfl, hc1, hc2, h3⟩ := hs.open
  by_cases hp : 0 < l.length
  · obtain ⟨b, o, rfl, hlt, hc⟩ := h3 hp
    clear h3 hc
    have hs2 := fun (h : ¬ c = 1) => hs.tail rfl hp h
    have hs1 := fun (h : c = 1) => tail_one (l := l) (by omega)
    have HS2 := Lib.hid hs2
    have HS1 := Lib.hid hs1
    clear hs hs1 hs2
    generalize hL : l.length = L at *
    clear hL
    go_wp2
    · go_ret
      exact ⟨_, rfl, by rw [HS1.out ‹_›]; rw [show L - 1 = 0 by omega]; exact Strs.empty _ _ _ (by omega), hx⟩
    · go_ret
      exact ⟨_, rfl, HS2.out ‹_›, hx⟩
  · have hz : l.length = 0 := by omega
    have HZ := Lib.hid hz
    clear hs
    rw [hz]; clear hz h3 hc1 hp
    go_wp2
    go_ret
    exact ⟨_, rfl, by rw [show l = [] from List.eq_nil_of_length_eq_zero HZ.out]; exact Strs.nil _, hx⟩
end
end Go.Proofs.YtnklmehphmidhaaGreatDoor
