/- number.Show. -/
import Derived.Test.YtnklmehphmidhaaGreatDoorRga
namespace Go.Proofs.YtnklmehphmidhaaGreatDoor
open Go.RowKit
set_option maxRecDepth 100000
set_option maxHeartbeats 1000000
set_option linter.unusedSimpArgs false
set_option linter.unusedVariables false

/-- A number's digits of base 16, the lowest first. -/
def hexLow : Nat → Int → List Int
  | 0, _ => []
  | f + 1, n => if n ≤ 0 then [] else hexD (n % 16) :: hexLow f (n / 16)
def showL (n : Int) : List Int :=
  if n < 10 then [48 + n] else ((72 :: hexLow 4 n) ++ if 57 < (72 :: hexLow 4 n).getLast?.getD 0 then [48] else []).reverse
def showN (n : Int) : ByteArray := strOfNums (showL n)

theorem u16_and15 (n : Int) (h0 : 0 ≤ n) (h1 : n ≤ 65535) : bits .and .u16 n 15 = n % 16 := by
  rw [u16_and n 15 h0 (by omega) (by omega) (by omega)]
  have : (15 : Int).toNat = 2 ^ 4 - 1 := by decide
  rw [this, Nat.and_two_pow_sub_one_eq_mod]
  obtain ⟨m, rfl⟩ := Int.eq_ofNat_of_zero_le h0
  simp

theorem Tryz.info5 : (Tryz.prog.info? 5).map (fun i => (i.zero, i.size, i.bytes)) = some (some (.int .u8 0), 1, 1) := by kernel_rfl

theorem hexLow_range : ∀ (f : Nat) (n : Int), 0 ≤ n → ∀ x ∈ hexLow f n, 48 ≤ x ∧ x ≤ 70
  | 0, n, _, x, h => by simp [hexLow] at h
  | f + 1, n, hn, x, h => by
    simp only [hexLow] at h
    split at h
    · simp at h
    · rcases List.mem_cons.1 h with h | h
      · subst h; exact hexD_range _ (by omega) (by omega)
      · exact hexLow_range f (n / 16) (by omega) x h

theorem ret_str {a b : ByteArray} (h : a = b) : Ending.returned (.string a) = .returned (.string b) := by rw [h]
theorem dig_cut (m : Nat) (h : m < 10) : (ByteArray.mk #[48, 49, 50, 51, 52, 53, 54, 55, 56, 57, 65, 66, 67, 68, 69, 70]).extract m (m + 1) = strOfNums [48 + (m : Int)] := by
  have key : ∀ i : Fin 10, (ByteArray.mk #[48, 49, 50, 51, 52, 53, 54, 55, 56, 57, 65, 66, 67, 68, 69, 70]).extract i.val (i.val + 1) = strOfNums [48 + (i.val : Int)] := by decide +kernel
  exact key ⟨m, h⟩
theorem shownum_small (n : Int) (h0 : 0 ≤ n) (h1 : n < 10) (w : World) : Calls Tryz.prog 174 #[.int .u16 n] w (RStr w (showN n)) := by
  have hS : showN n = strOfNums [48 + n] := by unfold showN showL; rw [if_pos h1]
  rw [hS]; clear hS
  obtain ⟨m, rfl⟩ := Int.eq_ofNat_of_zero_le h0
  go_enter Tryz.func174, Tryz.ntmps174
  go_wp2
  go_ret
  exact ⟨ret_str (dig_cut m (by omega)), Ext.refl _⟩

theorem hexLow_step (f : Nat) (n : Int) (h : 0 < n) : hexLow (f + 1) n = hexD (n % 16) :: hexLow f (n / 16) := by
  simp only [hexLow]; rw [if_neg (by omega)]
theorem hexLow_zero (f : Nat) : hexLow f 0 = [] := by cases f <;> rfl

/-- v owns, from block base on, the bytes l. -/
def OwnB (w : World) (base : Nat) (v : Value) (l : List Int) : Prop := w.ownsRow base 5 1 v l.length (l.map (Value.int .u8))
theorem OwnB.slice {w : World} {base : Nat} {v : Value} {l : List Int} (h : OwnB w base v l) (hl : 0 < l.length) : ∃ g c, v = .slice (some ⟨g, 0, none⟩) l.length c ∧ base ≤ g := by
  rcases h.2 with ⟨_, hn⟩ | ⟨g, cap, cur, rfl, hb, _⟩
  · omega
  · exact ⟨g, cap, rfl, hb⟩
theorem OwnB.sliceN {w : World} {base n : Nat} {v : Value} {l : List Int} (h : OwnB w base v l) (hn : l.length = n) (hl : 0 < n) : ∃ g c, v = .slice (some ⟨g, 0, none⟩) n c ∧ base ≤ g := by
  subst hn; exact h.slice hl
theorem rev_own (w0 : World) (l : List Int) (g n c : Nat) (hn : l.length = n) (hg : w0.heap.size ≤ g) (h0 : 0 < n) (h1 : n ≤ 1000) (hr : ∀ x ∈ l, 0 ≤ x ∧ x ≤ 255) (w : World) (h : RevSt w0 l g 0 w) :
    Calls Tryz.prog 199 #[.slice (some ⟨g, 0, none⟩) n c] w fun e w' => e = .returned (.tuple #[]) ∧ ∃ k, l.length ≤ k + 1 + k ∧ k + k ≤ l.length ∧ RevSt w0 l g k w' := by
  subst hn
  exact rev_any w0 l g c hg h0 (by omega) (fun j => getD_range hr j) w h
theorem OwnB.one (w : World) (base g : Nat) (hg : g = w.heap.size) (hb : base ≤ w.heap.size) (x : Int) : OwnB (w.alloc (.cells #[.int .u8 x] 5)) base (.slice (some ⟨g, 0, none⟩) 1 1) [x] := by
  subst hg
  exact ⟨by simp, .inr ⟨_, 1, #[.int .u8 x], rfl, hb, by simp [World.alloc, -World.alloc_eq], Nat.le_refl _, by simp [maxLen], by simp, by simp⟩⟩
theorem OwnB.rev {w w0 : World} {base g n c : Nat} {l : List Int} (h : OwnB w base (.slice (some ⟨g, 0, none⟩) n c) l) (hx : Ext w0 w) : RevSt w0 l g 0 w := by
  have h' := h
  obtain ⟨h1, h2 | ⟨g', cap, cur, hv, hb, hg, hcap, hm, hs, hxx⟩⟩ := h'
  · simp at h2
  · injection hv with e1 e2 e3
    injection e1 with e1
    injection e1 with e1
    subst e1; subst e2; subst e3
    refine ⟨hx, fun j hj => ?_, fun j hj => by simp [World.frozen?, hg]⟩
    rw [if_neg (by omega)]
    exact own_cell h (by simp [List.getElem?_eq_getElem hj])

theorem rev_conv {w0 w : World} {l : List Int} {g k c n : Nat} (h : RevSt w0 l g k w) (h1 : l.length ≤ k + 1 + k) (h2 : k + k ≤ l.length) (hn : n = l.length) :
    (convert 22 9 (.slice (some ⟨g, 0, none⟩) n c)).run Tryz.prog w = .ok (.string (strOfNums l.reverse)) w := by
  subst hn
  refine run_convert_bytes_arg (P := Tryz.prog) _ 22 5 Tryz.underlying22 Tryz.underlying5 _ 0 _ _ l.reverse (by simp) (fun i hi => ?_) 9 Tryz.underlying9
  rw [Nat.zero_add, h.cell i hi]
  have hr : l.reverse.getD i 0 = l.getD (l.length - 1 - i) 0 := by
    rw [List.getD_eq_getElem?_getD, List.getD_eq_getElem?_getD, List.getElem?_reverse hi]
  rw [hr]
  by_cases h3 : i < k ∨ l.length - k ≤ i
  · rw [if_pos h3]
  · rw [if_neg h3]
    have : i = l.length - 1 - i := by omega
    rw [← this]
theorem list_range_getD {l : List Int} (h : ∀ x ∈ l, 0 ≤ x ∧ x ≤ 255) : ∀ j, 0 ≤ l.getD j 0 ∧ l.getD j 0 ≤ 255 := fun j => getD_range h j

set_option maxHeartbeats 2000000 in
theorem shownum_big (n : Int) (h0 : 10 ≤ n) (h1 : n ≤ 65535) (w : World) : Calls Tryz.prog 174 #[.int .u16 n] w (RStr w (showN n)) := by
  obtain ⟨i0, hi0, hz0, hz1, hz2⟩ := info_parts Tryz.info5
  have hS : Hid (showN n = strOfNums ((72 :: hexLow 4 n) ++ if 57 < (72 :: hexLow 4 n).getLast?.getD 0 then [48] else []).reverse) := Lib.hid (by unfold showN showL; rw [if_neg (by omega)])
  go_enter Tryz.func174, Tryz.ntmps174
  go_wp2
  go_loopw [0, 3] (fun a b wr => ∃ (m : Int) (f : Nat) (l : List Int), a = .int .u16 m ∧ 0 ≤ m ∧ m < 16 ^ f ∧ f ≤ 4 ∧ l.length + f = 5 ∧ 72 :: hexLow 4 n = l ++ hexLow f m ∧ OwnB wr w.heap.size b l ∧ Ext w wr) (fun a _ _ => (intOf a).toNat)
  case atStart => exact ⟨n, 4, [72], rfl, by omega, by omega, by omega, by simp, by simp, OwnB.one w _ _ rfl (Nat.le_refl _) 72, (Ext.refl _).alloc _⟩
  case round =>
    obtain ⟨m, f, l, rfl, hm0, hm1, hf, hlf, hl, hO, E⟩ := hrel
    have HL := Lib.hid hl; clear hl
    obtain ⟨g, c, rfl, hgb⟩ := hO.slice (by omega)
    have hm16 : m < 65536 := by
      have : (16 : Int) ^ f ≤ 65536 := by rcases (by omega : f = 0 ∨ f = 1 ∨ f = 2 ∨ f = 3 ∨ f = 4) with rfl | rfl | rfl | rfl | rfl <;> decide
      omega
    by_cases hlt : 0 < m
    · obtain ⟨f', rfl⟩ : ∃ f', f = f' + 1 := by
        rcases f with _ | f'
        · simp at hm1; omega
        · exact ⟨f', rfl⟩
      have kb := u16_and15 m hm0 (by omega)
      have kh := hex_at (m % 16) (by omega) (by omega)
      have HO := Lib.hid hO; clear hO
      have HM1 := Lib.hid hm1; clear hm1
      have HLF := Lib.hid hlf; clear hlf
      have hll : l.length ≤ 5 := by have := HLF.out; omega
      go_wp2_with (at_builtin; refine wpList_append_own_at _ rfl _ _ _ rfl w.heap.size 5 i0 _ 1 1 Tryz.underlying22 hi0 hz0 hz1 hz2 rfl (by omega) (.slice (some ⟨g, 0, none⟩) l.length c) l.length _ (by rfl) (World.ownsRow.alloc HO.out _) ⟨wr.heap.size, 0, none⟩ 1 1 [.int .u8 (hexD (m % 16))] (by rfl) (by rfl) (World.news_of_block (cs := #[.int .u8 (hexD (m % 16))]) (t := 5) (fr := (0, 0)) (heap_alloc_new _ _)) (by simp [Value.oneCell']) (by unfold maxLen; omega) (by omega) (by have := E.size; simp; omega) ?_; intro v7 w7 hown7 hgrow _ _)
      go_roundw
      case rel =>
        refine ⟨m / 16, f', l ++ [hexD (m % 16)], by go_num, by omega, ?_, by omega, ?_, ?_, ?_, ?_⟩
        · have := HM1.out
          rw [Int.pow_succ] at this
          omega
        · have := HLF.out
          simp; omega
        · rw [HL.out, hexLow_step f' m hlt]; simp
        · unfold OwnB
          simpa using hown7
        · exact ext_grown (E.alloc _) hgrow (by intro k hk; simp [Value.ownBlock] at hk; omega)
      case measure => simp [intOf]; omega
    · obtain rfl : m = 0 := by omega
      have hl : 72 :: hexLow 4 n = l := by rw [HL.out, hexLow_zero]; simp
      have hrg : ∀ x ∈ l, 0 ≤ x ∧ x ≤ 255 := by
        intro x hx
        rw [← hl] at hx
        rcases List.mem_cons.1 hx with h | h
        · omega
        · have := hexLow_range 4 n (by omega) x h; omega
      rw [hl] at hS
      have hll : l.length ≤ 5 := by omega
      obtain ⟨l', y, rfl⟩ : ∃ l' y, l = l' ++ [y] := by
        rcases List.eq_nil_or_concat l with h | ⟨l', y, h⟩
        · rw [h] at hl; cases hl
        · exact ⟨l', y, by simpa using h⟩
      have HRG := Lib.hid hrg; clear hrg
      have HO := Lib.hid hO; clear hO
      have hy := HRG.out y (by simp)
      have hy0 := hy.1
      have hy1 := hy.2
      clear hl HL hlf
      have hlast : (l' ++ [y]).getLast?.getD 0 = y := by simp
      rw [hlast] at hS
      have kc := own_cell HO.out (j := l'.length) (u := .int .u8 y) (by simp)
      rw [List.length_append, List.length_singleton] at HO hll ⊢
      generalize hk : l'.length = k at *
      have HK := Lib.hid hk; clear hk
      have hxx : Ext w wr := E
      have hw0 := E.size
      by_cases h57 : 57 < y
      · rw [if_pos h57] at hS
        have hL2 : (l' ++ [y] ++ [48]).length = k + 1 + 1 := by simp; exact HK.out
        have HL2 := Lib.hid hL2; clear hL2
        have HR2 : Hid (∀ x ∈ l' ++ [y] ++ [48], 0 ≤ x ∧ x ≤ 255) := Lib.hid (by
          intro x hx
          rcases List.mem_append.1 hx with h | h
          · exact HRG.out x h
          · rw [List.mem_singleton.1 h]; omega)
        have HOA := Lib.hid (show wr.ownsRow w.heap.size 5 1 (.slice (some ⟨g, 0, none⟩) (k + 1) c) (k + 1) ((l' ++ [y]).map (Value.int .u8)) from by have := HO.out; unfold OwnB at this; rw [List.length_append, HK.out] at this; exact this)
        clear HO
        go_wp2_with (first
          | (at_builtin; refine wpList_append_own_at _ rfl _ _ _ rfl w.heap.size 5 i0 _ 1 1 Tryz.underlying22 hi0 hz0 hz1 hz2 rfl (by omega) (.slice (some ⟨g, 0, none⟩) (k + 1) c) (k + 1) _ (by rfl) (World.ownsRow.alloc HOA.out _) ⟨wr.heap.size, 0, none⟩ 1 1 [.int .u8 48] (by rfl) (by rfl) (World.news_of_block (cs := #[.int .u8 48]) (t := 5) (fr := (0, 0)) (heap_alloc_new _ _)) (by simp [Value.oneCell']) (by unfold maxLen; omega) (by omega) (by simp; omega) ?_; intro v7 w7 hown7 hgrow _ _; have hO7 : OwnB w7 w.heap.size v7 (l' ++ [y] ++ [48]) := (by unfold OwnB; rw [HL2.out]; simpa using hown7); obtain ⟨g7, c7, rfl, hg7⟩ := hO7.sliceN HL2.out (by omega); have HX7 := Lib.hid (ext_grown (hxx.alloc _) hgrow (by intro k hk; simp [Value.ownBlock] at hk; omega)); have HRV := Lib.hid (hO7.rev HX7.out); clear hown7 hgrow hO7)
          | (go_at_call 199; refine (rev_own w (l' ++ [y] ++ [48]) g7 _ c7 HL2.out hg7 (by omega) (by omega) HR2.out _ HRV.out).mono ?_; rintro e w8 ⟨rfl, k8, h81, h82, HS8⟩; have hcv := rev_conv (c := c7) HS8 h81 h82 HL2.out.symm; have HE8 := Lib.hid HS8.E; clear HS8 h81 h82))
        go_ret
        exact ⟨ret_str (by rw [hS.out]; simp), HE8.out⟩
      · rw [if_neg h57] at hS
        rw [List.append_nil] at hS
        have hL1 : (l' ++ [y]).length = k + 1 := by simp; exact HK.out
        have HL1 := Lib.hid hL1; clear hL1
        have HRV := Lib.hid (HO.out.rev hxx)
        clear HO
        go_wp2_with (go_at_call 199; refine (rev_own w (l' ++ [y]) g _ c HL1.out hgb (by omega) (by omega) HRG.out _ HRV.out).mono ?_; rintro e w8 ⟨rfl, k8, h81, h82, HS8⟩; have hcv := rev_conv (c := c) HS8 h81 h82 HL1.out.symm; have HE8 := Lib.hid HS8.E; clear HS8 h81 h82)
        go_ret
        exact ⟨ret_str (by rw [hS.out]; simp), HE8.out⟩

theorem shownum_any (n : Int) (h0 : 0 ≤ n) (h1 : n ≤ 65535) (w : World) : Calls Tryz.prog 174 #[.int .u16 n] w (RStr w (showN n)) := by
  by_cases h : n < 10
  · exact shownum_small n h0 h w
  · exact shownum_big n (by omega) h1 w
end Go.Proofs.YtnklmehphmidhaaGreatDoor
