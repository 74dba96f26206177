/- line.Show, on statements that are right. -/
import Derived.Test.YtnklmehphmidhaaGreatDoorRgd
namespace Go.Proofs.YtnklmehphmidhaaGreatDoor
open Go.RowKit
set_option maxRecDepth 100000
set_option maxHeartbeats 1000000
set_option linter.unusedSimpArgs false
set_option linter.unusedVariables false

/-- Strings, joined. -/
def joinS (l : List ByteArray) (sep : ByteArray) : ByteArray := ⟨(Lib.join (l.map (·.data.toList)) sep.data.toList).toArray⟩
theorem joinS_size (l : List ByteArray) (sep : ByteArray) (n m : Nat) (hs : sep.size ≤ 1) (hl : l.length ≤ n) (hm : ∀ s ∈ l, s.size ≤ m) : (joinS l sep).size ≤ n + n * m := by
  have key : ∀ l : List ByteArray, (∀ s ∈ l, s.size ≤ m) → Lib.lens (l.map (·.data.toList)) ≤ l.length * m := by
    intro l
    induction l with
    | nil => intro _; simp [Lib.lens]
    | cons a l ih =>
      intro h
      have h1 := h a (by simp)
      have h2 := ih (fun s hs => h s (by simp [hs]))
      have h3 : a.data.toList.length = a.size := Array.length_toList
      simp only [List.map_cons, Lib.lens, List.length_cons, Nat.succ_mul, List.sum_cons] at h2 ⊢
      rw [h3]; omega
  show (Lib.join (l.map (·.data.toList)) sep.data.toList).length ≤ _
  cases l with
  | nil => simp [Lib.join_nil]
  | cons a l =>
    rw [List.map_cons, Lib.join_length]
    have h1 := key (a :: l) hm
    have h2 : (a :: l).length * m ≤ n * m := Nat.mul_le_mul_right m hl
    have h3 : sep.data.toList.length * (l.map (·.data.toList)).length ≤ 1 * n := by
      refine Nat.mul_le_mul ?_ ?_
      · rw [Array.length_toList]; exact hs
      · rw [List.length_map]; simp at hl; omega
    rw [List.map_cons] at h1
    omega
theorem join_any (l : List ByteArray) (v : Value) (sep : ByteArray) (hs : sep.size ≤ 1) (hl : l.length ≤ 1000) (hm : ∀ s ∈ l, s.size ≤ 1000) (w : World) (hr : RdS w v l) : Calls Tryz.prog 48 #[v, .string sep] w (RStr w (joinS l sep)) := by
  have hz := joinS_size l sep 1000 1000 hs hl hm
  obtain ⟨A, c, rfl, hcap, h⟩ := hr
  rcases Nat.eq_zero_or_pos l.length with h0 | h0
  · have : l = [] := List.eq_nil_of_length_eq_zero h0
    subst this
    exact (Tryz.strings_Join_none A c sep w).mono fun e w' ⟨he, hw⟩ => ⟨he, hw ▸ Ext.refl _⟩
  · obtain ⟨b, o, rfl, hb, hc⟩ := h h0
    exact (Tryz.strings_Join b o c l sep w hc hb (by omega) hcap (by have : (Lib.join (l.map (·.data.toList)) sep.data.toList).length = (joinS l sep).size := rfl
                                                                     omega)).mono fun e w' ⟨he, hx⟩ => ⟨he, hx⟩

theorem inS_size {s : ByteArray} {l : List ByteArray} {n : Nat} (h : inS s l = true) (hl : ∀ a ∈ l, a.size ≤ n) : s.size ≤ n := hl s (inS_iff.1 h)
theorem resL_size (d : Int) : ∀ a ∈ resL d, a.size ≤ 4 := by
  have h0 : (resL 0).all (fun a => decide (a.size ≤ 4)) = true := by decide +kernel
  have h1 : (resL 1).all (fun a => decide (a.size ≤ 4)) = true := by decide +kernel
  have h2 : (resL 2).all (fun a => decide (a.size ≤ 4)) = true := by decide +kernel
  intro a ha
  by_cases e0 : d = 0
  · subst e0; simpa using List.all_eq_true.1 h0 a ha
  by_cases e1 : d = 1
  · subst e1; simpa using List.all_eq_true.1 h1 a ha
  by_cases e2 : d = 2
  · subst e2; simpa using List.all_eq_true.1 h2 a ha
  unfold resL at ha
  rw [if_neg e0, if_neg e1, if_neg e2] at ha
  cases ha
theorem wordB_size {d : Int} {s : ByteArray} (h : wordB d s = true) : s.size ≤ 4 := by
  have hz : zspL.all (fun a => decide (a.size ≤ 4)) = true := by decide +kernel
  have he : espL.all (fun a => decide (a.size ≤ 4)) = true := by decide +kernel
  unfold wordB at h
  simp only [Bool.or_eq_true, Bool.and_eq_true] at h
  rcases h with (⟨_, h⟩ | ⟨_, h⟩) | ⟨h, _⟩
  · exact inS_size h (fun a ha => by simpa using List.all_eq_true.1 hz a ha)
  · exact inS_size h (fun a ha => by simpa using List.all_eq_true.1 he a ha)
  · exact inS_size h (resL_size d)
theorem argT_word (d : Int) (s : ByteArray) (hs : s.toList.isEmpty = false) : argT d (wordA s) = s := by
  show (if s.data.isEmpty = true then _ else s) = s
  rw [if_neg]
  intro e
  rw [ByteArray.toList_eq] at hs
  rw [Array.isEmpty_iff] at e
  rw [e] at hs
  cases hs
theorem argT_size {d : Int} {a : AR} (h : ARF d a) : (argT d a).size ≤ 16 := by
  rcases h with ⟨s, hs, hw, rfl⟩ | ⟨m, n, hm, rfl⟩ | ⟨s, hs, rfl⟩
  · rw [argT_word d s hs]
    have := wordB_size hw; omega
  · have hz := showN_size n
    have key : ∀ (x y : Array UInt8), x.size = 1 → y.size = 1 → (ByteArray.mk (x ++ (showN n).data ++ y)).size ≤ 16 := by
      intro x y hx hy
      show (x ++ (showN n).data ++ y).size ≤ 16
      rw [Array.size_append, Array.size_append]
      have : (showN n).data.size = (showN n).size := rfl
      omega
    cases m with
    | false => show (showN n).size ≤ 16; omega
    | true =>
      show (if (d == 2) = true then (_ : ByteArray) else _).size ≤ 16
      split
      · exact key _ _ rfl rfl
      · exact key _ _ rfl rfl
  · exact nameB_size hs.nm
theorem size_pos {s : ByteArray} (h : s.toList.isEmpty = false) : 0 < s.size := by
  rcases Nat.eq_zero_or_pos s.size with h0 | h0
  · have : s.toList = [] := by
      rw [ByteArray.toList_eq]
      exact List.eq_nil_of_length_eq_zero (by rw [Array.length_toList]; exact h0)
    rw [this] at h; cases h
  · exact h0
theorem not_empty {s : ByteArray} (h : 0 < s.size) : s.toList.isEmpty = false := by
  rw [ByteArray.toList_eq, Bool.eq_false_iff]
  intro e
  rw [List.isEmpty_iff] at e
  have := congrArg List.length e
  rw [Array.length_toList] at this
  have h2 : s.data.size = s.size := rfl
  simp only [List.length_nil] at this
  omega
theorem argT_ne {d : Int} {a : AR} (h : ARF d a) : 0 < (argT d a).size := by
  rcases h with ⟨s, hs, hw, rfl⟩ | ⟨m, n, hm, rfl⟩ | ⟨s, hs, rfl⟩
  · rw [argT_word d s hs]
    exact size_pos hs
  · have key : ∀ (x y : Array UInt8), x.size = 1 → y.size = 1 → 0 < (ByteArray.mk (x ++ (showN n).data ++ y)).size := by
      intro x y hx hy
      show 0 < (x ++ (showN n).data ++ y).size
      rw [Array.size_append, Array.size_append]
      omega
    cases m with
    | false =>
      show 0 < (showN n).size
      unfold showN
      rw [strOfNums_size]
      unfold showL
      split
      · simp
      · simp; omega
    | true =>
      show 0 < (if (d == 2) = true then (_ : ByteArray) else _).size
      split
      · exact key _ _ rfl rfl
      · exact key _ _ rfl rfl
  · exact size_pos hs.ne

def argsT (d : Int) (l : List AR) : ByteArray := joinS (l.map (argT d)) ⟨#[44]⟩
def wordsT (d : Int) (s : SR) : List ByteArray := (if s.colon = true then [s.label ++ ⟨#[58]⟩] else []) ++ [s.op] ++ (if s.args.length = 0 then [] else [argsT d s.args])
/-- A statement's text. -/
def showT (d : Int) (s : SR) : ByteArray := joinS (wordsT d s) ⟨#[32]⟩
theorem argsT_ne {d : Int} {l : List AR} (hl : ∀ a ∈ l, ARF d a) (h0 : 0 < l.length) : 0 < (argsT d l).size := by
  cases l with
  | nil => simp at h0
  | cons a l =>
    have h1 := argT_ne (hl a (by simp))
    show 0 < (Lib.join _ _).length
    rw [List.map_cons, List.map_cons, Lib.join_length]
    simp only [Lib.lens, List.map_cons, List.sum_cons]
    have : (argT d a).data.toList.length = (argT d a).size := Array.length_toList
    omega
theorem argsT_size {d : Int} {l : List AR} (hl : ∀ a ∈ l, ARF d a) (h2 : l.length ≤ 2) : (argsT d l).size ≤ 34 := by
  have := joinS_size (l.map (argT d)) ⟨#[44]⟩ 2 16 (by decide) (by simpa using h2) (by intro s hs; obtain ⟨a, ha, rfl⟩ := List.mem_map.1 hs; exact argT_size (hl a ha))
  exact this
theorem wordsT_size {d : Int} {s : SR} (h : Fine d s) : ∀ x ∈ wordsT d s, x.size ≤ 34 := by
  intro x hx
  unfold wordsT at hx
  rcases List.mem_append.1 hx with hx | hx
  · rcases List.mem_append.1 hx with hx | hx
    · split at hx
      · rename_i hc
        rw [List.mem_singleton.1 hx]
        rcases h.lab with ⟨_, h2⟩ | ⟨h1, _⟩
        · rw [h2] at hc; cases hc
        · have := nameB_size h1.nm
          have : (s.label ++ (⟨#[58]⟩ : ByteArray)).size = s.label.size + 1 := by rw [ByteArray.size_append]; rfl
          omega
      · cases hx
    · rw [List.mem_singleton.1 hx]
      have h1 := h.opg
      unfold greatB at h1
      simp only [Bool.and_eq_true] at h1
      have := nameB_size h1.1
      omega
  · split at hx
    · cases hx
    · rw [List.mem_singleton.1 hx]
      exact argsT_size h.args h.len
theorem wordsT_len (d : Int) (s : SR) : (wordsT d s).length ≤ 3 := by
  unfold wordsT
  split <;> split <;> simp
theorem showT_size {d : Int} {s : SR} (h : Fine d s) : (showT d s).size ≤ 105 := joinS_size _ _ 3 34 (by decide) (wordsT_len d s) (wordsT_size h)

theorem addS_no (l : List ByteArray) (s : ByteArray) (h : s.size = 0) : addS l s = l := by unfold addS; rw [if_pos h]
theorem addS_yes (l : List ByteArray) (s : ByteArray) (h : 0 < s.size) : addS l s = l ++ [s] := by unfold addS; rw [if_neg (by omega)]
theorem words_eq (d : Int) (s : SR) (h : Fine d s) : addS (addS (addS [] (if s.colon = true then s.label ++ ⟨#[58]⟩ else s.label)) s.op) (argsT d s.args) = wordsT d s := by
  unfold wordsT
  have h1 : addS [] (if s.colon = true then s.label ++ ⟨#[58]⟩ else s.label) = (if s.colon = true then [s.label ++ ⟨#[58]⟩] else []) := by
    rcases h.lab with ⟨e1, e2⟩ | ⟨e1, e2⟩
    · rw [e1, e2]; exact addS_no _ _ rfl
    · rw [e2, if_pos rfl, if_pos rfl]
      exact addS_yes _ _ (by rw [ByteArray.size_append]; exact Nat.lt_of_lt_of_le (by decide : 0 < (ByteArray.mk #[58]).size) (Nat.le_add_left _ _))
  rw [h1, addS_yes _ _ (size_pos h.opne)]
  by_cases h0 : s.args.length = 0
  · rw [if_pos h0, List.append_nil]
    refine addS_no _ _ ?_
    rw [List.eq_nil_of_length_eq_zero h0]; rfl
  · rw [if_neg h0]
    exact addS_yes _ _ (argsT_ne h.args (by omega))
end Go.Proofs.YtnklmehphmidhaaGreatDoor
