/- line.Show's closure. -/
import Derived.Test.YtnklmehphmidhaaGreatDoorRgc
namespace Go.Proofs.YtnklmehphmidhaaGreatDoor
open Go.RowKit
set_option maxRecDepth 100000
set_option maxHeartbeats 1000000
set_option linter.unusedSimpArgs false
set_option linter.unusedVariables false

/-- v owns, from block base on, the strings l. -/
def OwnS (w : World) (base : Nat) (v : Value) (l : List ByteArray) : Prop := w.ownsRow base 9 1 v l.length (l.map Value.string)
theorem OwnS.nil (w : World) (base : Nat) : OwnS w base (.slice none 0 0) [] := World.ownsRow_nil _ _ _ _
theorem OwnS.slice {w : World} {base : Nat} {v : Value} {l : List ByteArray} (h : OwnS w base v l) : ∃ A c, v = .slice A l.length c := own_slice h
theorem OwnS.rd {w : World} {base : Nat} {v : Value} {l : List ByteArray} (h : OwnS w base v l) : RdS w v l := RdS.own h rfl
theorem OwnS.lt {w : World} {base : Nat} {v : Value} {l : List ByteArray} (h : OwnS w base v l) : ∀ k, v.ownBlock = some k → base ≤ k ∧ k < w.heap.size := World.ownsRow.lt h
theorem OwnS.tr {B : Nat → Prop} {w w' : World} {base : Nat} {v : Value} {l : List ByteArray} (h : OwnS w base v l) (t : Tr B w w') (hne : ∀ g, v.ownBlock = some g → ¬ B g) : OwnS w' base v l := t.own h hne
theorem OwnS.ext {w w' : World} {base : Nat} {v : Value} {l : List ByteArray} (h : OwnS w base v l) (hx : Ext w w') : OwnS w' base v l := (Tr.of_ext (B := fun _ => False) hx).own h (fun _ _ e => e)

def Post46 (w : World) (g : Nat) (v : Value) (l : List ByteArray) : Ending → World → Prop := fun e w' =>
  e = .returned (.tuple #[]) ∧ ∃ v', Blk w' g #[v'] ∧ OwnS w' (g + 1) v' l ∧ Tr (fun b => b = g ∨ v.ownBlock = some b) w w' ∧ (v'.ownBlock = v.ownBlock ∨ ∃ k, v'.ownBlock = some k ∧ w.heap.size ≤ k)

theorem clos46_add (s : ByteArray) (hs : s.toList.isEmpty = false) (g : Nat) (v : Value) (l : List ByteArray) (hl : l.length ≤ 1000) (w : World) (hB : Blk w g #[v]) (hO : OwnS w (g + 1) v l) :
    Calls Tryz.prog 46 #[.string s, .pointer (some ⟨g, 0, none⟩)] w (Post46 w g v (l ++ [s])) := by
  obtain ⟨i0, hi0, hz0, hz1, hz2⟩ := info_parts Tryz.info9
  have hOs := hO
  obtain ⟨A, c, rfl⟩ := hO.slice
  have hlt := hB.lt
  have k0 := hB.cell
  have HB := Lib.hid hB; clear hB
  have HN : Hid (∀ b, (Value.slice A l.length c).ownBlock = some b → g + 1 ≤ b) := Lib.hid (fun b hb => (hO.lt b hb).1)
  have HO := Lib.hid hO; clear hO hOs
  generalize hL : l.length = L at *
  have HL := Lib.hid hL; clear hL
  have HOA := Lib.hid (show w.ownsRow (g + 1) 9 1 (.slice A L c) L (l.map Value.string) from by have := HO.out; unfold OwnS at this; rw [HL.out] at this; exact this)
  go_enter Tryz.func46, Tryz.ntmps46
  go_wp2_with (at_builtin; refine wpList_append_own_at _ rfl _ _ _ rfl (g + 1) 9 i0 _ 1 16 Tryz.underlying79 hi0 hz0 hz1 hz2 rfl (by omega) (.slice A L c) L _ (by rfl) (World.ownsRow.alloc HOA.out _) ⟨w.heap.size, 0, none⟩ 1 1 [.string s] (by rfl) (by rfl) (World.news_of_block (cs := #[.string s]) (t := 9) (fr := (0, 0)) (heap_alloc_new _ _)) (by simp [Value.oneCell']) (by unfold maxLen; omega) (by omega) (by simp; omega) ?_; intro v7 w7 hown7 hgrow _ hat; obtain ⟨A7, c7, rfl⟩ := own_slice hown7; have hB7 := (HB.out.alloc (.cells #[.string s] 9)).grown hgrow (by intro e; have := HN.out g e.symm; omega); have k7 := hB7.cell; have f7 := hB7.frozen; have HG := Lib.hid hgrow; have HAT := Lib.hid hat; have HW7 := Lib.hid hown7; clear hgrow hat hown7)
  go_end0
  have hg7 : w7.heap.size ≥ w.heap.size + 1 := by have := HG.out.size; simpa using this
  have hown := HW7.out
  have T1 : Tr (fun b => b = g ∨ (Value.slice A L c).ownBlock = some b) w w7 := (Tr.of_ext ((Ext.refl w).alloc _)).trans (Tr.of_grown HG.out (fun b hb => .inr hb))
  refine ⟨rfl, .slice A7 (L + 1) c7, hB7.put 0 _, ?_, T1.set (.inl rfl) _, ?_⟩
  · have hO2 : OwnS w7 (g + 1) (.slice A7 (L + 1) c7) (l ++ [s]) := by
      unfold OwnS
      rw [List.length_append, HL.out]
      simpa using hown
    exact hO2.tr ((Tr.of_ext (B := fun b => b = g) (Ext.refl w7)).set rfl _) (fun b hb e => by have := (hO2.lt b hb).1; omega)
  · rcases HAT.out with h | h
    · exact .inl h
    · exact .inr ⟨_, h, by simp⟩
theorem clos46_skip (s : ByteArray) (hs : s.toList = []) (p : Value) (w : World) :
    Calls Tryz.prog 46 #[.string s, p] w fun e w' => e = .returned (.tuple #[]) ∧ w = w' := by
  go_enter Tryz.func46, Tryz.ntmps46
  go_wp2
  go_end0
  exact ⟨rfl, rfl⟩

def addS (l : List ByteArray) (s : ByteArray) : List ByteArray := if s.size = 0 then l else l ++ [s]
theorem addS_len (l : List ByteArray) (s : ByteArray) : (addS l s).length ≤ l.length + 1 := by
  unfold addS; split <;> simp
theorem clos46_any (s : ByteArray) (g : Nat) (v : Value) (l : List ByteArray) (hl : l.length ≤ 1000) (w : World) (hB : Blk w g #[v]) (hO : OwnS w (g + 1) v l) :
    Calls Tryz.prog 46 #[.string s, .pointer (some ⟨g, 0, none⟩)] w (Post46 w g v (addS l s)) := by
  by_cases h : s.size = 0
  · have h1 : addS l s = l := by unfold addS; rw [if_pos h]
    rw [h1]
    refine (clos46_skip s ?_ _ w).mono ?_
    · rw [ByteArray.toList_eq]
      exact List.eq_nil_of_length_eq_zero (by rw [Array.length_toList]; exact h)
    · rintro e w' ⟨rfl, rfl⟩
      exact ⟨rfl, v, hB, hO, Tr.of_ext (Ext.refl _), .inl rfl⟩
  · have h1 : addS l s = l ++ [s] := by unfold addS; rw [if_neg h]
    rw [h1]
    refine clos46_add s ?_ g v l hl w hB hO
    rw [ByteArray.toList_eq, Bool.eq_false_iff]
    intro e
    rw [List.isEmpty_iff] at e
    have := congrArg List.length e
    rw [Array.length_toList] at this
    exact h this
end Go.Proofs.YtnklmehphmidhaaGreatDoor
