/- line.Show, on statements that are right. -/
import Derived.Test.YtnklmehphmidhaaGreatDoorMl
namespace Go.Proofs.YtnklmehphmidhaaGreatDoor
section
open Go.RowKit
set_option maxRecDepth 100000
set_option maxHeartbeats 1000000
set_option linter.unusedSimpArgs false
set_option linter.unusedVariables false

/-- v owns, from block base on, the strings l. -/
def OwnS (w : World) (base : Nat) (v : Value) (l : List ByteArray) : Prop := w.ownsRow base 9 1 v l.length (l.map Value.string)
theorem OwnS.nil (w : World) (base : Nat) : OwnS w base (.slice none 0 0) [] := World.ownsRow_nil _ _ _ _
theorem OwnS.slice {w : World} {base : Nat} {v : Value} {l : List ByteArray} (h : OwnS w base v l) : ∃ A c, v = .slice A l.length c := own_slice h
theorem OwnS.rd {w : World} {base : Nat} {v : Value} {l : List ByteArray} (h : OwnS w base v l) : RdS w v l := RdS.own h rfl
theorem OwnS.lt {w : World} {base : Nat} {v : Value} {l : List ByteArray} (h : OwnS w base v l) : ∀ k, v.ownBlock = some k → base ≤ k ∧ k < w.heap.size := World.ownsRow.lt h
theorem OwnS.tr {B : Nat → Prop} {w w' : World} {base : Nat} {v : Value} {l : List ByteArray} (h : OwnS w base v l) (t : Tr B w w') (hne : ∀ g, v.ownBlock = some g → ¬ B g) : OwnS w' base v l := t.own h hne
theorem OwnS.ext {w w' : World} {base : Nat} {v : Value} {l : List ByteArray} (h : OwnS w base v l) (hx : Ext w w') : OwnS w' base v l := (Tr.of_ext (B := fun _ => False) hx).own h (fun _ _ e => e)

def Post46 (w : World) (g : Nat) (v : Value) (l : List ByteArray) : Ending → World → Prop := fun e w' =>
  e = .returned (.tuple #[]) ∧ ∃ v', Blk w' g #[v'] ∧ OwnS w' (g + 1) v' l ∧ Tr (fun b => b = g ∨ v.ownBlock = some b) w w' ∧ (v'.ownBlock = v.ownBlock ∨ ∃ k, v'.ownBlock = some k ∧ w.heap.size ≤ k)

theorem clos46_add (s : ByteArray) (hs : s.toList.isEmpty = false) (g : Nat) (v : Value) (l : List ByteArray) (hl : l.length ≤ 1000) (w : World) (hB : Blk w g #[v]) (hO : OwnS w (g + 1) v l) :
    Calls Tryz.prog 46 #[.string s, .pointer (some ⟨g, 0, none⟩)] w (Post46 w g v (l ++ [s])) := by
  obtain ⟨i0, hi0, hz0, hz1, hz2⟩ := info_parts Tryz.info9
  have hOs := hO
  obtain ⟨A, c, rfl⟩ := hO.slice
  have hlt := hB.lt
  have k0 := hB.cell
  have HB := Lib.hid hB; clear hB
  have HN : Hid (∀ b, (Value.slice A l.length c).ownBlock = some b → g + 1 ≤ b) := Lib.hid (fun b hb => (hO.lt b hb).1)
  have HO := Lib.hid hO; clear hO hOs
  generalize hL : l.length = L at *
  have HL := Lib.hid hL; clear hL
  have HOA := Lib.hid (show w.ownsRow (g + 1) 9 1 (.slice A L c) L (l.map Value.string) from by have := HO.out; unfold OwnS at this; rw [HL.out] at this; exact this)
  go_enter Tryz.func46, Tryz.ntmps46
  go_wp2_with (at_builtin; refine wpList_append_own_at _ rfl _ _ _ rfl (g + 1) 9 i0 _ 1 16 Tryz.underlying79 hi0 hz0 hz1 hz2 rfl (by omega) (.slice A L c) L _ (by rfl) (World.ownsRow.alloc HOA.out _) ⟨w.heap.size, 0, none⟩ 1 1 [.string s] (by rfl) (by rfl) (World.news_of_block (cs := #[.string s]) (t := 9) (fr := (0, 0)) (heap_alloc_new _ _)) (by simp [Value.oneCell']) (by unfold maxLen; omega) (by omega) (by simp; omega) ?_; intro v7 w7 hown7 hgrow _ hat; obtain ⟨A7, c7, rfl⟩ := own_slice hown7; have hB7 := (HB.out.alloc (.cells #[.string s] 9)).grown hgrow (by intro e; have := HN.out g e.symm; omega); have k7 := hB7.cell; have f7 := hB7.frozen; have HG := Lib.hid hgrow; have HAT := Lib.hid hat; have HW7 := Lib.hid hown7; clear hgrow hat hown7)
  go_end0
  have hg7 : w7.heap.size ≥ w.heap.size + 1 := by have := HG.out.size; simpa using this
  have hown := HW7.out
  have T1 : Tr (fun b => b = g ∨ (Value.slice A L c).ownBlock = some b) w w7 := (Tr.of_ext ((Ext.refl w).alloc _)).trans (Tr.of_grown HG.out (fun b hb => .inr hb))
  refine ⟨rfl, .slice A7 (L + 1) c7, hB7.put 0 _, ?_, T1.set (.inl rfl) _, ?_⟩
  · have hO2 : OwnS w7 (g + 1) (.slice A7 (L + 1) c7) (l ++ [s]) := by
      unfold OwnS
      rw [List.length_append, HL.out]
      simpa using hown
    exact hO2.tr ((Tr.of_ext (B := fun b => b = g) (Ext.refl w7)).set rfl _) (fun b hb e => by have := (hO2.lt b hb).1; omega)
  · rcases HAT.out with h | h
    · exact .inl h
    · exact .inr ⟨_, h, by simp⟩
theorem clos46_skip (s : ByteArray) (hs : s.toList = []) (p : Value) (w : World) :
    Calls Tryz.prog 46 #[.string s, p] w fun e w' => e = .returned (.tuple #[]) ∧ w = w' := by
  go_enter Tryz.func46, Tryz.ntmps46
  go_wp2
  go_end0
  exact ⟨rfl, rfl⟩

def addS (l : List ByteArray) (s : ByteArray) : List ByteArray := if s.size = 0 then l else l ++ [s]
theorem addS_len (l : List ByteArray) (s : ByteArray) : (addS l s).length ≤ l.length + 1 := by
  unfold addS; split <;> simp
theorem clos46_any (s : ByteArray) (g : Nat) (v : Value) (l : List ByteArray) (hl : l.length ≤ 1000) (w : World) (hB : Blk w g #[v]) (hO : OwnS w (g + 1) v l) :
    Calls Tryz.prog 46 #[.string s, .pointer (some ⟨g, 0, none⟩)] w (Post46 w g v (addS l s)) := by
  by_cases h : s.size = 0
  · have h1 : addS l s = l := by unfold addS; rw [if_pos h]
    rw [h1]
    refine (clos46_skip s ?_ _ w).mono ?_
    · rw [ByteArray.toList_eq]
      exact List.eq_nil_of_length_eq_zero (by rw [Array.length_toList]; exact h)
    · rintro e w' ⟨rfl, rfl⟩
      exact ⟨rfl, v, hB, hO, Tr.of_ext (Ext.refl _), .inl rfl⟩
  · have h1 : addS l s = l ++ [s] := by unfold addS; rw [if_neg h]
    rw [h1]
    refine clos46_add s ?_ g v l hl w hB hO
    rw [ByteArray.toList_eq, Bool.eq_false_iff]
    intro e
    rw [List.isEmpty_iff] at e
    have := congrArg List.length e
    rw [Array.length_toList] at this
    exact h this
end

section
open Go.RowKit
set_option maxRecDepth 100000
set_option maxHeartbeats 1000000
set_option linter.unusedSimpArgs false
set_option linter.unusedVariables false

/-- Strings, joined. -/
def joinS (l : List ByteArray) (sep : ByteArray) : ByteArray := ⟨(Lib.join (l.map (·.data.toList)) sep.data.toList).toArray⟩
theorem joinS_size (l : List ByteArray) (sep : ByteArray) (n m : Nat) (hs : sep.size ≤ 1) (hl : l.length ≤ n) (hm : ∀ s ∈ l, s.size ≤ m) : (joinS l sep).size ≤ n + n * m := by
  have key : ∀ l : List ByteArray, (∀ s ∈ l, s.size ≤ m) → Lib.lens (l.map (·.data.toList)) ≤ l.length * m := by
    intro l
    induction l with
    | nil => intro _; simp [Lib.lens]
    | cons a l ih =>
      intro h
      have h1 := h a (by simp)
      have h2 := ih (fun s hs => h s (by simp [hs]))
      have h3 : a.data.toList.length = a.size := Array.length_toList
      simp only [List.map_cons, Lib.lens, List.length_cons, Nat.succ_mul, List.sum_cons] at h2 ⊢
      rw [h3]; omega
  show (Lib.join (l.map (·.data.toList)) sep.data.toList).length ≤ _
  cases l with
  | nil => simp [Lib.join_nil]
  | cons a l =>
    rw [List.map_cons, Lib.join_length]
    have h1 := key (a :: l) hm
    have h2 : (a :: l).length * m ≤ n * m := Nat.mul_le_mul_right m hl
    have h3 : sep.data.toList.length * (l.map (·.data.toList)).length ≤ 1 * n := by
      refine Nat.mul_le_mul ?_ ?_
      · rw [Array.length_toList]; exact hs
      · rw [List.length_map]; simp at hl; omega
    rw [List.map_cons] at h1
    omega
theorem join_any (l : List ByteArray) (v : Value) (sep : ByteArray) (hs : sep.size ≤ 1) (hl : l.length ≤ 1000) (hm : ∀ s ∈ l, s.size ≤ 1000) (w : World) (hr : RdS w v l) : Calls Tryz.prog 48 #[v, .string sep] w (RStr w (joinS l sep)) := by
  have hz := joinS_size l sep 1000 1000 hs hl hm
  obtain ⟨A, c, rfl, hcap, h⟩ := hr
  rcases Nat.eq_zero_or_pos l.length with h0 | h0
  · have : l = [] := List.eq_nil_of_length_eq_zero h0
    subst this
    exact (Tryz.strings_Join_none A c sep w).mono fun e w' ⟨he, hw⟩ => ⟨he, hw ▸ Ext.refl _⟩
  · obtain ⟨b, o, rfl, hb, hc⟩ := h h0
    exact (Tryz.strings_Join b o c l sep w hc hb (by omega) hcap (by have : (Lib.join (l.map (·.data.toList)) sep.data.toList).length = (joinS l sep).size := rfl
                                                                     omega)).mono fun e w' ⟨he, hx⟩ => ⟨he, hx⟩

theorem inS_size {s : ByteArray} {l : List ByteArray} {n : Nat} (h : inS s l = true) (hl : ∀ a ∈ l, a.size ≤ n) : s.size ≤ n := hl s (inS_iff.1 h)
theorem resL_size (d : Int) : ∀ a ∈ resL d, a.size ≤ 4 := by
  have h0 : (resL 0).all (fun a => decide (a.size ≤ 4)) = true := by decide +kernel
  have h1 : (resL 1).all (fun a => decide (a.size ≤ 4)) = true := by decide +kernel
  have h2 : (resL 2).all (fun a => decide (a.size ≤ 4)) = true := by decide +kernel
  intro a ha
  by_cases e0 : d = 0
  · subst e0; simpa using List.all_eq_true.1 h0 a ha
  by_cases e1 : d = 1
  · subst e1; simpa using List.all_eq_true.1 h1 a ha
  by_cases e2 : d = 2
  · subst e2; simpa using List.all_eq_true.1 h2 a ha
  unfold resL at ha
  rw [if_neg e0, if_neg e1, if_neg e2] at ha
  cases ha
theorem wordB_size {d : Int} {s : ByteArray} (h : wordB d s = true) : s.size ≤ 4 := by
  have hz : zspL.all (fun a => decide (a.size ≤ 4)) = true := by decide +kernel
  have he : espL.all (fun a => decide (a.size ≤ 4)) = true := by decide +kernel
  unfold wordB at h
  simp only [Bool.or_eq_true, Bool.and_eq_true] at h
  rcases h with (⟨_, h⟩ | ⟨_, h⟩) | ⟨h, _⟩
  · exact inS_size h (fun a ha => by simpa using List.all_eq_true.1 hz a ha)
  · exact inS_size h (fun a ha => by simpa using List.all_eq_true.1 he a ha)
  · exact inS_size h (resL_size d)
theorem argT_word (d : Int) (s : ByteArray) (hs : s.toList.isEmpty = false) : argT d (wordA s) = s := by
  show (if s.data.isEmpty = true then _ else s) = s
  rw [if_neg]
  intro e
  rw [ByteArray.toList_eq] at hs
  rw [Array.isEmpty_iff] at e
  rw [e] at hs
  cases hs
theorem argT_size {d : Int} {a : AR} (h : ARF d a) : (argT d a).size ≤ 16 := by
  rcases h with ⟨s, hs, hw, rfl⟩ | ⟨m, n, hm, rfl⟩ | ⟨s, hs, rfl⟩
  · rw [argT_word d s hs]
    have := wordB_size hw; omega
  · have hz := showN_size n
    have key : ∀ (x y : Array UInt8), x.size = 1 → y.size = 1 → (ByteArray.mk (x ++ (showN n).data ++ y)).size ≤ 16 := by
      intro x y hx hy
      show (x ++ (showN n).data ++ y).size ≤ 16
      rw [Array.size_append, Array.size_append]
      have : (showN n).data.size = (showN n).size := rfl
      omega
    cases m with
    | false => show (showN n).size ≤ 16; omega
    | true =>
      show (if (d == 2) = true then (_ : ByteArray) else _).size ≤ 16
      split
      · exact key _ _ rfl rfl
      · exact key _ _ rfl rfl
  · exact nameB_size hs.nm
theorem size_pos {s : ByteArray} (h : s.toList.isEmpty = false) : 0 < s.size := by
  rcases Nat.eq_zero_or_pos s.size with h0 | h0
  · have : s.toList = [] := by
      rw [ByteArray.toList_eq]
      exact List.eq_nil_of_length_eq_zero (by rw [Array.length_toList]; exact h0)
    rw [this] at h; cases h
  · exact h0
theorem not_empty {s : ByteArray} (h : 0 < s.size) : s.toList.isEmpty = false := by
  rw [ByteArray.toList_eq, Bool.eq_false_iff]
  intro e
  rw [List.isEmpty_iff] at e
  have := congrArg List.length e
  rw [Array.length_toList] at this
  have h2 : s.data.size = s.size := rfl
  simp only [List.length_nil] at this
  omega
theorem argT_ne {d : Int} {a : AR} (h : ARF d a) : 0 < (argT d a).size := by
  rcases h with ⟨s, hs, hw, rfl⟩ | ⟨m, n, hm, rfl⟩ | ⟨s, hs, rfl⟩
  · rw [argT_word d s hs]
    exact size_pos hs
  · have key : ∀ (x y : Array UInt8), x.size = 1 → y.size = 1 → 0 < (ByteArray.mk (x ++ (showN n).data ++ y)).size := by
      intro x y hx hy
      show 0 < (x ++ (showN n).data ++ y).size
      rw [Array.size_append, Array.size_append]
      omega
    cases m with
    | false =>
      show 0 < (showN n).size
      unfold showN
      rw [strOfNums_size]
      unfold showL
      split
      · simp
      · simp; omega
    | true =>
      show 0 < (if (d == 2) = true then (_ : ByteArray) else _).size
      split
      · exact key _ _ rfl rfl
      · exact key _ _ rfl rfl
  · exact size_pos hs.ne

def argsT (d : Int) (l : List AR) : ByteArray := joinS (l.map (argT d)) ⟨#[44]⟩
def wordsT (d : Int) (s : SR) : List ByteArray := (if s.colon = true then [s.label ++ ⟨#[58]⟩] else []) ++ [s.op] ++ (if s.args.length = 0 then [] else [argsT d s.args])
/-- A statement's text. -/
def showT (d : Int) (s : SR) : ByteArray := joinS (wordsT d s) ⟨#[32]⟩
theorem argsT_ne {d : Int} {l : List AR} (hl : ∀ a ∈ l, ARF d a) (h0 : 0 < l.length) : 0 < (argsT d l).size := by
  cases l with
  | nil => simp at h0
  | cons a l =>
    have h1 := argT_ne (hl a (by simp))
    show 0 < (Lib.join _ _).length
    rw [List.map_cons, List.map_cons, Lib.join_length]
    simp only [Lib.lens, List.map_cons, List.sum_cons]
    have : (argT d a).data.toList.length = (argT d a).size := Array.length_toList
    omega
theorem argsT_size {d : Int} {l : List AR} (hl : ∀ a ∈ l, ARF d a) (h2 : l.length ≤ 2) : (argsT d l).size ≤ 34 := by
  have := joinS_size (l.map (argT d)) ⟨#[44]⟩ 2 16 (by decide) (by simpa using h2) (by intro s hs; obtain ⟨a, ha, rfl⟩ := List.mem_map.1 hs; exact argT_size (hl a ha))
  exact this
theorem wordsT_size {d : Int} {s : SR} (h : Fine d s) : ∀ x ∈ wordsT d s, x.size ≤ 34 := by
  intro x hx
  unfold wordsT at hx
  rcases List.mem_append.1 hx with hx | hx
  · rcases List.mem_append.1 hx with hx | hx
    · split at hx
      · rename_i hc
        rw [List.mem_singleton.1 hx]
        rcases h.lab with ⟨_, h2⟩ | ⟨h1, _⟩
        · rw [h2] at hc; cases hc
        · have := nameB_size h1.nm
          have : (s.label ++ (⟨#[58]⟩ : ByteArray)).size = s.label.size + 1 := by rw [ByteArray.size_append]; rfl
          omega
      · cases hx
    · rw [List.mem_singleton.1 hx]
      have h1 := h.opg
      unfold greatB at h1
      simp only [Bool.and_eq_true] at h1
      have := nameB_size h1.1
      omega
  · split at hx
    · cases hx
    · rw [List.mem_singleton.1 hx]
      exact argsT_size h.args h.len
theorem wordsT_len (d : Int) (s : SR) : (wordsT d s).length ≤ 3 := by
  unfold wordsT
  split <;> split <;> simp
theorem showT_size {d : Int} {s : SR} (h : Fine d s) : (showT d s).size ≤ 105 := joinS_size _ _ 3 34 (by decide) (wordsT_len d s) (wordsT_size h)

theorem addS_no (l : List ByteArray) (s : ByteArray) (h : s.size = 0) : addS l s = l := by unfold addS; rw [if_pos h]
theorem addS_yes (l : List ByteArray) (s : ByteArray) (h : 0 < s.size) : addS l s = l ++ [s] := by unfold addS; rw [if_neg (by omega)]
theorem words_eq (d : Int) (s : SR) (h : Fine d s) : addS (addS (addS [] (if s.colon = true then s.label ++ ⟨#[58]⟩ else s.label)) s.op) (argsT d s.args) = wordsT d s := by
  unfold wordsT
  have h1 : addS [] (if s.colon = true then s.label ++ ⟨#[58]⟩ else s.label) = (if s.colon = true then [s.label ++ ⟨#[58]⟩] else []) := by
    rcases h.lab with ⟨e1, e2⟩ | ⟨e1, e2⟩
    · rw [e1, e2]; exact addS_no _ _ rfl
    · rw [e2, if_pos rfl, if_pos rfl]
      exact addS_yes _ _ (by rw [ByteArray.size_append]; exact Nat.lt_of_lt_of_le (by decide : 0 < (ByteArray.mk #[58]).size) (Nat.le_add_left _ _))
  rw [h1, addS_yes _ _ (size_pos h.opne)]
  by_cases h0 : s.args.length = 0
  · rw [if_pos h0, List.append_nil]
    refine addS_no _ _ ?_
    rw [List.eq_nil_of_length_eq_zero h0]; rfl
  · rw [if_neg h0]
    exact addS_yes _ _ (argsT_ne h.args (by omega))
end

section
open Go.RowKit
set_option maxRecDepth 100000
set_option maxHeartbeats 2000000
set_option linter.unusedSimpArgs false
set_option linter.unusedVariables false

/-- What 's.Args' loop holds behind k rounds. -/
structure ShSt (w : World) (d : Int) (l : List AR) (g k : Nat) (va : Value) (wr : World) : Prop where
  E : Ext w wr
  B : Blk wr g #[.slice none 0 0]
  O : OwnS wr (g + 1) va ((l.take k).map (argT d))

theorem show26_any (d : Int) (hd : 0 ≤ d ∧ d ≤ 2) (s : SR) (v : Value) (hF : Fine d s) (hn : ∀ a ∈ s.args, 0 ≤ a.n ∧ a.n ≤ 65535) (w : World) (hT : Tab w) (hr : RdA w v s.args) :
    Calls Tryz.prog 26 #[.int .i64 d, .agg #[.string s.label, .bool s.colon, .string s.op, v]] w fun e w' => e = .returned (.tuple #[.string (showT d s), .int .i64 0]) ∧ Ext w w' := by
  obtain ⟨i0, hi0, hz0, hz1, hz2⟩ := info_parts Tryz.info9
  have HS := Lib.hid (showT_size hF)
  have HTX := Lib.hid (show showT d s = joinS (wordsT d s) ⟨#[32]⟩ from rfl)
  have HWL := Lib.hid (words_eq d s hF)
  obtain ⟨lab, col, op, l⟩ := s
  simp only at hn hr HWL ⊢
  have HF := Lib.hid hF; clear hF
  obtain ⟨A, c, rfl, h⟩ := id hr
  have HR := Lib.hid hr; clear hr
  have HN := Lib.hid hn; clear hn
  have HT := Lib.hid hT; clear hT
  have HH := Lib.hid h; clear h
  have hL2 : l.length ≤ 2 := HF.out.len
  generalize hL : l.length = L at *
  have HL := Lib.hid hL; clear hL
  have hlab : lab.size ≤ 16 := by
    rcases HF.out.lab with ⟨h, _⟩ | ⟨h, _⟩
    · simp only at h; subst h; decide
    · exact nameB_size h.nm
  have hmk : ∀ (fn : Fn) (first cap : Array Value) (w : World), (Instr.makeFunc fn first cap).run Tryz.prog w = .ok (.func fn first cap) w := fun _ _ _ _ => rfl
  generalize hout : showT d ⟨lab, col, op, l⟩ = out at *
  clear hout
  have hsz := HS.out
  cases col
  all_goals
    go_enter Tryz.func26, Tryz.ntmps26
    go_wp2_with (go_at_call 14; refine (right14_any d hd ⟨lab, _, op, l⟩ _ HF.out _ (HT.out.ext ((Ext.refl _).alloc _)) (HR.out.ext ((Ext.refl _).alloc _))).mono ?_; rintro e w1 ⟨rfl, hx1⟩; have B0 := (Blk.new w _ 31).ext hx1; have k0 := B0.cell; have lt0 := B0.lt)
    have hE1 : Ext w w1 := ((Ext.refl _).alloc _).trans hx1
    have ltw : w.heap.size < w1.heap.size := lt0
    have HST := Lib.hid (show ShSt w d l w1.heap.size 0 (.slice none 0 0) (w1.alloc (.cells #[.slice none 0 0] 79)) from ⟨hE1.alloc _, Blk.new _ _ _, OwnS.nil _ _⟩)
    have HB0 := Lib.hid (B0.alloc (.cells #[.slice none 0 0] 79))
    clear B0 k0 hx1 lt0
    go_loopw [8, 30] (fun va i wr => ∃ k, k ≤ L ∧ i = .int .i64 (k : Nat) ∧ Hid (ShSt w d l w1.heap.size k va wr) ∧ Hid (Blk wr w.heap.size #[.string lab, .bool _, .string op, .slice A L c])) (fun _ i _ => L - (intOf i).toNat)
    case atStart => exact ⟨0, by omega, rfl, HST, HB0⟩
    case round =>
      obtain ⟨k, hk, rfl, HK, HBk⟩ := hrel
      by_cases hlt : k < L
      · obtain ⟨b, o, rfl, hb, hcell⟩ := HH.out (by omega)
        obtain ⟨a, ha⟩ : ∃ a, l[k]? = some a := ⟨_, List.getElem?_eq_getElem (by rw [HL.out]; exact hlt)⟩
        have E := HK.out.E
        have k0 := E.cell (hcell k a 0 _ ha rfl)
        have k1 := E.cell (hcell k a 1 _ ha rfl)
        have k2 := E.cell (hcell k a 2 _ ha rfl)
        have k3 := E.cell (hcell k a 3 _ ha rfl)
        have k4 := E.cell (hcell k a 4 _ ha rfl)
        have k5 := E.cell (hcell k a 5 _ ha rfl)
        have k6 := E.cell (hcell k a 6 _ ha rfl)
        have k7 := E.cell (hcell k a 7 _ ha rfl)
        rw [Nat.add_zero] at k0
        have HA := Lib.hid ha
        have HM : Hid (a ∈ l) := Lib.hid (List.mem_of_getElem? ha)
        clear hcell ha
        have hlen : ((l.take k).map (argT d)).length = k := by simp [HL.out, hk]
        have hsl := HK.out.O.slice
        rw [hlen] at hsl
        obtain ⟨Av, cv, rfl⟩ := hsl
        have HLEN := Lib.hid hlen; clear hlen
        have HE := Lib.hid E; clear E
        have HON := Lib.hid (show wr.ownsRow (w1.heap.size + 1) 9 1 (.slice Av k cv) k (((l.take k).map (argT d)).map Value.string) from by have := HK.out.O; unfold OwnS at this; rw [HLEN.out] at this; exact this)
        have hw1r : w1.heap.size < wr.heap.size := HK.out.B.lt
        have HAV : Hid (∀ b, (Value.slice Av k cv).ownBlock = some b → w1.heap.size + 1 ≤ b) := Lib.hid (fun b hb => (HK.out.O.lt b hb).1)
        go_wp2_with (first
          | (go_at_call 47; refine (show47_any d a (HF.out.args a HM.out) (HN.out a HM.out) _).mono ?_; rintro e w5 ⟨rfl, hx5⟩; have hs5 : wr.heap.size < w5.heap.size := (by have := hx5.size; simp at this; omega); have HX5 := Lib.hid (((Ext.refl wr).alloc _).trans hx5); clear hx5)
          | (at_builtin; refine wpList_append_own_at _ rfl _ _ _ rfl (w1.heap.size + 1) 9 i0 _ 1 16 Tryz.underlying79 hi0 hz0 hz1 hz2 rfl (by omega) (.slice Av k cv) k _ (by rfl) (World.ownsRow.alloc ((Tr.of_ext (B := fun _ => False) HX5.out).own HON.out (fun _ _ e => e)) _) ⟨w5.heap.size, 0, none⟩ 1 1 [.string (argT d a)] (by rfl) (by rfl) (World.news_of_block (cs := #[.string (argT d a)]) (t := 9) (fr := (0, 0)) (heap_alloc_new _ _)) (by simp [Value.oneCell']) (by unfold maxLen; omega) (by omega) (by simp; omega) ?_; intro v7 w7 hown7 hgrow _ _; have HG := Lib.hid hgrow; have HO7 := Lib.hid hown7; clear hgrow hown7))
        go_roundw
        case rel =>
          have E7 : Ext w w7 := ext_grown ((HE.out.trans HX5.out).alloc _) HG.out (fun b hb => by have := HAV.out b hb; omega)
          refine ⟨k + 1, by omega, by go_num, Lib.hid ⟨E7, ?_, ?_⟩, Lib.hid ?_⟩
          · exact ((HK.out.B.ext HX5.out).alloc _).grown HG.out (fun e => by have := HAV.out _ e.symm; omega)
          · have ht : (l.take (k + 1)).map (argT d) = (l.take k).map (argT d) ++ [argT d a] := by
              rw [List.take_add_one, HA.out]; simp
            rw [ht]
            unfold OwnS
            rw [List.length_append, HLEN.out]
            simpa using HO7.out
          · exact ((HBk.out.ext HX5.out).alloc _).grown HG.out (fun e => by have := HAV.out _ e.symm; omega)
        case measure => simp [intOf]; omega
      · obtain rfl : k = L := by omega
        have hlen : ((l.take k).map (argT d)) = l.map (argT d) := by rw [List.take_of_length_le (by rw [HL.out]; omega)]
        have hO0 := HK.out.O
        rw [hlen] at hO0
        have HO0 := Lib.hid hO0; clear hO0 hlen
        have HV0 : Hid (∀ b, Value.ownBlock _ = some b → w1.heap.size + 1 ≤ b ∧ b < wr.heap.size) := Lib.hid (fun b hb => HO0.out.lt b hb)
        go_wp2_with fail
        refine (clos46_any _ w1.heap.size _ [] (by simp) _ HK.out.B (OwnS.nil _ _)).mono ?_
        rintro e w5 ⟨rfl, v5, hB5, hO5, hT5, hat5⟩
        have HB5 := Lib.hid hB5; have HO5 := Lib.hid hO5; have HT5 := Lib.hid hT5
        have hBb := hT5.blk HBk.out (by intro e; rcases e with e | e; · omega
                                        · cases e)
        have HBb := Lib.hid hBb; clear hBb
        have hOa := HO0.out.tr hT5 (by intro b hb e; have h1 := (HV0.out b hb).1; rcases e with e | e; · omega
                                       · cases e)
        have HOa := Lib.hid hOa; clear hOa
        have HV5 : Hid (∀ b, v5.ownBlock = some b → wr.heap.size ≤ b) := Lib.hid (by
          intro b hb
          rcases hat5 with h | ⟨j, h, hj⟩
          · rw [h] at hb; cases hb
          · rw [h] at hb; injection hb with hb; omega)
        have kb := HBb.out.cell
        have hs5 := hT5.size
        clear hB5 hO5 hT5 hat5
        go_wp2_with fail
        refine (clos46_any op w1.heap.size v5 _ (by have := addS_len [] lab; simp at this; have := addS_len [] (lab ++ ⟨#[58]⟩); simp at this; omega) _ HB5.out HO5.out).mono ?_
        rintro e w6 ⟨rfl, v6, hB6, hO6, hT6, hat6⟩
        have HB6 := Lib.hid hB6; have HO6 := Lib.hid hO6; have HT6 := Lib.hid hT6
        have hOb := HOa.out.tr hT6 (by
          intro b hb e
          have h1 := HV0.out b hb
          rcases e with e | e
          · omega
          · have := HV5.out b e; omega)
        have HOb := Lib.hid hOb; clear hOb
        have hs6 := hT6.size
        clear hB6 hO6 hT6 hat6 kb
        have HJ : Hid (joinS (l.map (argT d)) ⟨#[44]⟩ = argsT d l) := Lib.hid rfl
        go_wp2_with (go_at_call 48; refine (join_any (l.map (argT d)) _ ⟨#[44]⟩ (by decide) (by simp; rw [HL.out]; omega) (by intro x hx; obtain ⟨a, ha, rfl⟩ := List.mem_map.1 hx; have := argT_size (HF.out.args a ha); omega) _ HOb.out.rd).mono ?_; rw [HJ.out]; rintro e w7 ⟨rfl, hx7⟩)
        have hw6 : w6.heap.size ≤ w7.heap.size := hx7.size
        refine (clos46_any (argsT d l) w1.heap.size v6 _ (by have h1 := addS_len [] lab; have h2 := addS_len [] (lab ++ ⟨#[58]⟩); have h3 := addS_len (addS [] lab) op; have h4 := addS_len (addS [] (lab ++ ⟨#[58]⟩)) op; simp at h1 h2; omega) _ (HB6.out.ext hx7) (HO6.out.ext hx7)).mono ?_
        rintro e w8 ⟨rfl, v8, hB8, hO8, hT8, hat8⟩
        have hW := HWL.out
        simp only [reduceIte, Bool.false_eq_true] at hW
        rw [hW] at hO8
        have hEx : Ext w w8 := by
          have e5 : Ext w w5 := HT5.out.ext HK.out.E (by intro b hb; rcases hb with hb | hb; · omega
                                                         · cases hb)
          have e6 : Ext w w6 := HT6.out.ext e5 (by intro b hb; have := HK.out.E.size; rcases hb with hb | hb; · omega
                                                   · have := HV5.out b hb; omega)
          refine hT8.ext (e6.trans hx7) ?_
          intro b hb
          rcases hb with hb | hb
          · omega
          · have := (HO6.out.lt b hb).1; omega
        have HEx := Lib.hid hEx
        have HO8 := Lib.hid hO8
        have k8 := hB8.cell
        obtain ⟨A8, c8, rfl⟩ := hO8.slice
        have HW8 := Lib.hid hT8
        have HTY := Lib.hid HTX.out.symm
        clear hEx hB8 hO8 hT8 hat8 hW
        go_wp2_with (go_at_call 48; refine (join_any _ _ ⟨#[32]⟩ (by decide) (Nat.le_trans (wordsT_len d _) (by omega)) (fun x hx => Nat.le_trans (wordsT_size HF.out x hx) (by omega)) _ HO8.out.rd).mono ?_; rw [HTY.out]; rintro e w9 ⟨rfl, hx9⟩)
        go_ret2
        exact ⟨rfl, HEx.out.trans hx9⟩
end
end Go.Proofs.YtnklmehphmidhaaGreatDoor
