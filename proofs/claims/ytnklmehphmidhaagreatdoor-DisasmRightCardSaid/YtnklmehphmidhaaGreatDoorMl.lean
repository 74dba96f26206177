/- number.Show, expr.Show, line.show. -/
import Derived.Test.YtnklmehphmidhaaGreatDoorMk
import Derived.RegionTactic
namespace Go.Proofs.YtnklmehphmidhaaGreatDoor
section
open Go.RowKit
set_option maxRecDepth 100000
set_option maxHeartbeats 1000000
set_option linter.unusedSimpArgs false
set_option linter.unusedVariables false

structure RevSt (w0 : World) (l : List Int) (g k : Nat) (wr : World) : Prop where
  E : Ext w0 wr
  cell : ∀ j, j < l.length → wr.cell? ⟨g, j, none⟩ = some (.int .u8 (if j < k ∨ l.length - k ≤ j then l.getD (l.length - 1 - j) 0 else l.getD j 0))
  free : ∀ j, j < l.length → wr.frozen? ⟨g, j, none⟩ = false
theorem RevSt.drew {w0 : World} {l : List Int} {g k : Nat} {wr : World} (h : RevSt w0 l g k wr) : RevSt w0 l g k wr.drew := ⟨h.E.drew, h.cell, h.free⟩
theorem RevSt.next {w0 : World} {l : List Int} {g k : Nat} {wr : World} (h : RevSt w0 l g k wr) (hg : w0.heap.size ≤ g) (hk : k + 1 + k < l.length) (x y : Int) (hx : x = l.getD k 0) (hy : y = l.getD (l.length - 1 - k) 0) :
    RevSt w0 l g (k + 1) ((wr.setCell ⟨g, k, none⟩ (.int .u8 y)).setCell ⟨g, l.length - 1 - k, none⟩ (.int .u8 x)) := by
  subst hx; subst hy
  refine ⟨(h.E.setCell hg _).setCell hg _, fun j hj => ?_, fun j hj => by rw [World.frozen?_setCell, World.frozen?_setCell]; exact h.free j hj⟩
  by_cases h1 : j = l.length - 1 - k
  · have hc := h.cell j hj
    subst h1
    have h2 := (World.cell?_setCell_other wr ⟨g, k, none⟩ ⟨g, l.length - 1 - k, none⟩ (.int .u8 (l.getD (l.length - 1 - k) 0)) (by intro e; injection e with e1 e2; omega)).trans hc
    rw [World.cell?_setCell_same _ _ _ h2, if_pos (by omega)]
    congr 3; omega
  · rw [World.cell?_setCell_other _ _ _ _ (by intro e; injection e with e1 e2; omega)]
    by_cases h2 : j = k
    · subst h2
      rw [World.cell?_setCell_same _ _ _ (h.cell j hj), if_pos (by omega)]
    · rw [World.cell?_setCell_other _ _ _ _ (by intro e; injection e with e1 e2; omega), h.cell j hj]
      by_cases h3 : j < k ∨ l.length - k ≤ j
      · rw [if_pos h3, if_pos (by omega)]
      · rw [if_neg h3, if_neg (by omega)]

theorem rev_any (w0 : World) (l : List Int) (g c : Nat) (hg : w0.heap.size ≤ g) (h0 : 0 < l.length) (h1 : (l.length : Int) ≤ 1000) (hr : ∀ j, 0 ≤ l.getD j 0 ∧ l.getD j 0 ≤ 255) (w : World) (h : RevSt w0 l g 0 w) :
    Calls Tryz.prog 199 #[.slice (some ⟨g, 0, none⟩) l.length c] w fun e w' => e = .returned (.tuple #[]) ∧ ∃ k, l.length ≤ k + 1 + k ∧ k + k ≤ l.length ∧ RevSt w0 l g k w' := by
  have H := Lib.hid h; clear h
  have HR := Lib.hid hr; clear hr
  go_enter Tryz.func199, Tryz.ntmps199
  go_wp2
  go_loopw [2, 3] (fun i j wr => ∃ k : Nat, k + k ≤ l.length ∧ i = .int .i64 k ∧ j = .int .i64 (l.length - 1 - k : Int) ∧ Hid (RevSt w0 l g k wr)) (fun i _ _ => l.length - (intOf i).toNat)
  case atStart => exact ⟨0, by omega, rfl, by simp, H⟩
  case round =>
    obtain ⟨k, hk, rfl, rfl, HS⟩ := hrel
    by_cases hlt : k + 1 + k < l.length
    · have hj : (l.length - 1 - k : Int) = ((l.length - 1 - k : Nat) : Int) := by omega
      have c1 := HS.out.cell k (by omega)
      have c2 := HS.out.cell (l.length - 1 - k) (by omega)
      rw [if_neg (by omega)] at c1 c2
      have f1 := HS.out.free k (by omega)
      have f2 := HS.out.free (l.length - 1 - k) (by omega)
      have r1 := HR.out k
      have r2 := HR.out (l.length - 1 - k)
      rw [hj]
      clear hj
      generalize hjj : l.length - 1 - k = j at *
      generalize hx : l.getD k 0 = x at *
      generalize hy : l.getD j 0 = y at *
      have HX := Lib.hid hx; have HY := Lib.hid hy; have HJ := Lib.hid hjj
      have hkj : k < j := by omega
      have hjl : j < l.length := by omega
      clear hx hy hjj
      go_wp2
      go_region
      all_goals
        go_wp2
        go_roundw
        case rel =>
          refine ⟨k + 1, by omega, by go_num, ?_, Lib.hid ?_⟩
          · have hj2 := HJ.out
            congr 1; omega
          · have hn := HS.out.next hg (by omega) x y HX.out.symm (by rw [HJ.out]; exact HY.out.symm)
            rw [HJ.out] at hn
            exact hn.drew
        case measure => simp [intOf]; omega
    · have hge : ¬ ((k : Int) < (l.length : Int) - 1 - k) := by omega
      go_wp2
      go_end0
      exact ⟨rfl, k, by omega, hk, HS.out⟩
end

section
open Go.RowKit
set_option maxRecDepth 100000
set_option maxHeartbeats 1000000
set_option linter.unusedSimpArgs false
set_option linter.unusedVariables false

/-- A number's digits of base 16, the lowest first. -/
def hexLow : Nat → Int → List Int
  | 0, _ => []
  | f + 1, n => if n ≤ 0 then [] else hexD (n % 16) :: hexLow f (n / 16)
def showL (n : Int) : List Int :=
  if n < 10 then [48 + n] else ((72 :: hexLow 4 n) ++ if 57 < (72 :: hexLow 4 n).getLast?.getD 0 then [48] else []).reverse
def showN (n : Int) : ByteArray := strOfNums (showL n)

theorem u16_and15 (n : Int) (h0 : 0 ≤ n) (h1 : n ≤ 65535) : bits .and .u16 n 15 = n % 16 := by
  rw [u16_and n 15 h0 (by omega) (by omega) (by omega)]
  have : (15 : Int).toNat = 2 ^ 4 - 1 := by decide
  rw [this, Nat.and_two_pow_sub_one_eq_mod]
  obtain ⟨m, rfl⟩ := Int.eq_ofNat_of_zero_le h0
  simp

theorem Tryz.info5 : (Tryz.prog.info? 5).map (fun i => (i.zero, i.size, i.bytes)) = some (some (.int .u8 0), 1, 1) := by kernel_rfl

theorem hexLow_range : ∀ (f : Nat) (n : Int), 0 ≤ n → ∀ x ∈ hexLow f n, 48 ≤ x ∧ x ≤ 70
  | 0, n, _, x, h => by simp [hexLow] at h
  | f + 1, n, hn, x, h => by
    simp only [hexLow] at h
    split at h
    · simp at h
    · rcases List.mem_cons.1 h with h | h
      · subst h; exact hexD_range _ (by omega) (by omega)
      · exact hexLow_range f (n / 16) (by omega) x h

theorem ret_str {a b : ByteArray} (h : a = b) : Ending.returned (.string a) = .returned (.string b) := by rw [h]
theorem dig_cut (m : Nat) (h : m < 10) : (ByteArray.mk #[48, 49, 50, 51, 52, 53, 54, 55, 56, 57, 65, 66, 67, 68, 69, 70]).extract m (m + 1) = strOfNums [48 + (m : Int)] := by
  have key : ∀ i : Fin 10, (ByteArray.mk #[48, 49, 50, 51, 52, 53, 54, 55, 56, 57, 65, 66, 67, 68, 69, 70]).extract i.val (i.val + 1) = strOfNums [48 + (i.val : Int)] := by decide +kernel
  exact key ⟨m, h⟩
theorem shownum_small (n : Int) (h0 : 0 ≤ n) (h1 : n < 10) (w : World) : Calls Tryz.prog 174 #[.int .u16 n] w (RStr w (showN n)) := by
  have hS : showN n = strOfNums [48 + n] := by unfold showN showL; rw [if_pos h1]
  rw [hS]; clear hS
  obtain ⟨m, rfl⟩ := Int.eq_ofNat_of_zero_le h0
  go_enter Tryz.func174, Tryz.ntmps174
  go_wp2
  go_ret
  exact ⟨ret_str (dig_cut m (by omega)), Ext.refl _⟩

theorem hexLow_step (f : Nat) (n : Int) (h : 0 < n) : hexLow (f + 1) n = hexD (n % 16) :: hexLow f (n / 16) := by
  simp only [hexLow]; rw [if_neg (by omega)]
theorem hexLow_zero (f : Nat) : hexLow f 0 = [] := by cases f <;> rfl

/-- v owns, from block base on, the bytes l. -/
def OwnB (w : World) (base : Nat) (v : Value) (l : List Int) : Prop := w.ownsRow base 5 1 v l.length (l.map (Value.int .u8))
theorem OwnB.slice {w : World} {base : Nat} {v : Value} {l : List Int} (h : OwnB w base v l) (hl : 0 < l.length) : ∃ g c, v = .slice (some ⟨g, 0, none⟩) l.length c ∧ base ≤ g := by
  rcases h.2 with ⟨_, hn⟩ | ⟨g, cap, cur, rfl, hb, _⟩
  · omega
  · exact ⟨g, cap, rfl, hb⟩
theorem OwnB.sliceN {w : World} {base n : Nat} {v : Value} {l : List Int} (h : OwnB w base v l) (hn : l.length = n) (hl : 0 < n) : ∃ g c, v = .slice (some ⟨g, 0, none⟩) n c ∧ base ≤ g := by
  subst hn; exact h.slice hl
theorem rev_own (w0 : World) (l : List Int) (g n c : Nat) (hn : l.length = n) (hg : w0.heap.size ≤ g) (h0 : 0 < n) (h1 : n ≤ 1000) (hr : ∀ x ∈ l, 0 ≤ x ∧ x ≤ 255) (w : World) (h : RevSt w0 l g 0 w) :
    Calls Tryz.prog 199 #[.slice (some ⟨g, 0, none⟩) n c] w fun e w' => e = .returned (.tuple #[]) ∧ ∃ k, l.length ≤ k + 1 + k ∧ k + k ≤ l.length ∧ RevSt w0 l g k w' := by
  subst hn
  exact rev_any w0 l g c hg h0 (by omega) (fun j => getD_range hr j) w h
theorem OwnB.one (w : World) (base g : Nat) (hg : g = w.heap.size) (hb : base ≤ w.heap.size) (x : Int) : OwnB (w.alloc (.cells #[.int .u8 x] 5)) base (.slice (some ⟨g, 0, none⟩) 1 1) [x] := by
  subst hg
  exact ⟨by simp, .inr ⟨_, 1, #[.int .u8 x], rfl, hb, by simp [World.alloc, -World.alloc_eq], Nat.le_refl _, by simp [maxLen], by simp, by simp⟩⟩
theorem OwnB.rev {w w0 : World} {base g n c : Nat} {l : List Int} (h : OwnB w base (.slice (some ⟨g, 0, none⟩) n c) l) (hx : Ext w0 w) : RevSt w0 l g 0 w := by
  have h' := h
  obtain ⟨h1, h2 | ⟨g', cap, cur, hv, hb, hg, hcap, hm, hs, hxx⟩⟩ := h'
  · simp at h2
  · injection hv with e1 e2 e3
    injection e1 with e1
    injection e1 with e1
    subst e1; subst e2; subst e3
    refine ⟨hx, fun j hj => ?_, fun j hj => by simp [World.frozen?, hg]⟩
    rw [if_neg (by omega)]
    exact own_cell h (by simp [List.getElem?_eq_getElem hj])

theorem rev_conv {w0 w : World} {l : List Int} {g k c n : Nat} (h : RevSt w0 l g k w) (h1 : l.length ≤ k + 1 + k) (h2 : k + k ≤ l.length) (hn : n = l.length) :
    (convert 22 9 (.slice (some ⟨g, 0, none⟩) n c)).run Tryz.prog w = .ok (.string (strOfNums l.reverse)) w := by
  subst hn
  refine run_convert_bytes_arg (P := Tryz.prog) _ 22 5 Tryz.underlying22 Tryz.underlying5 _ 0 _ _ l.reverse (by simp) (fun i hi => ?_) 9 Tryz.underlying9
  rw [Nat.zero_add, h.cell i hi]
  have hr : l.reverse.getD i 0 = l.getD (l.length - 1 - i) 0 := by
    rw [List.getD_eq_getElem?_getD, List.getD_eq_getElem?_getD, List.getElem?_reverse hi]
  rw [hr]
  by_cases h3 : i < k ∨ l.length - k ≤ i
  · rw [if_pos h3]
  · rw [if_neg h3]
    have : i = l.length - 1 - i := by omega
    rw [← this]
theorem list_range_getD {l : List Int} (h : ∀ x ∈ l, 0 ≤ x ∧ x ≤ 255) : ∀ j, 0 ≤ l.getD j 0 ∧ l.getD j 0 ≤ 255 := fun j => getD_range h j

set_option maxHeartbeats 2000000 in
theorem shownum_big (n : Int) (h0 : 10 ≤ n) (h1 : n ≤ 65535) (w : World) : Calls Tryz.prog 174 #[.int .u16 n] w (RStr w (showN n)) := by
  obtain ⟨i0, hi0, hz0, hz1, hz2⟩ := info_parts Tryz.info5
  have hS : Hid (showN n = strOfNums ((72 :: hexLow 4 n) ++ if 57 < (72 :: hexLow 4 n).getLast?.getD 0 then [48] else []).reverse) := Lib.hid (by unfold showN showL; rw [if_neg (by omega)])
  go_enter Tryz.func174, Tryz.ntmps174
  go_wp2
  go_loopw [0, 3] (fun a b wr => ∃ (m : Int) (f : Nat) (l : List Int), a = .int .u16 m ∧ 0 ≤ m ∧ m < 16 ^ f ∧ f ≤ 4 ∧ l.length + f = 5 ∧ 72 :: hexLow 4 n = l ++ hexLow f m ∧ OwnB wr w.heap.size b l ∧ Ext w wr) (fun a _ _ => (intOf a).toNat)
  case atStart => exact ⟨n, 4, [72], rfl, by omega, by omega, by omega, by simp, by simp, OwnB.one w _ _ rfl (Nat.le_refl _) 72, (Ext.refl _).alloc _⟩
  case round =>
    obtain ⟨m, f, l, rfl, hm0, hm1, hf, hlf, hl, hO, E⟩ := hrel
    have HL := Lib.hid hl; clear hl
    obtain ⟨g, c, rfl, hgb⟩ := hO.slice (by omega)
    have hm16 : m < 65536 := by
      have : (16 : Int) ^ f ≤ 65536 := by rcases (by omega : f = 0 ∨ f = 1 ∨ f = 2 ∨ f = 3 ∨ f = 4) with rfl | rfl | rfl | rfl | rfl <;> decide
      omega
    by_cases hlt : 0 < m
    · obtain ⟨f', rfl⟩ : ∃ f', f = f' + 1 := by
        rcases f with _ | f'
        · simp at hm1; omega
        · exact ⟨f', rfl⟩
      have kb := u16_and15 m hm0 (by omega)
      have kh := hex_at (m % 16) (by omega) (by omega)
      have HO := Lib.hid hO; clear hO
      have HM1 := Lib.hid hm1; clear hm1
      have HLF := Lib.hid hlf; clear hlf
      have hll : l.length ≤ 5 := by have := HLF.out; omega
      go_wp2_with (at_builtin; refine wpList_append_own_at _ rfl _ _ _ rfl w.heap.size 5 i0 _ 1 1 Tryz.underlying22 hi0 hz0 hz1 hz2 rfl (by omega) (.slice (some ⟨g, 0, none⟩) l.length c) l.length _ (by rfl) (World.ownsRow.alloc HO.out _) ⟨wr.heap.size, 0, none⟩ 1 1 [.int .u8 (hexD (m % 16))] (by rfl) (by rfl) (World.news_of_block (cs := #[.int .u8 (hexD (m % 16))]) (t := 5) (fr := (0, 0)) (heap_alloc_new _ _)) (by simp [Value.oneCell']) (by unfold maxLen; omega) (by omega) (by have := E.size; simp; omega) ?_; intro v7 w7 hown7 hgrow _ _)
      go_roundw
      case rel =>
        refine ⟨m / 16, f', l ++ [hexD (m % 16)], by go_num, by omega, ?_, by omega, ?_, ?_, ?_, ?_⟩
        · have := HM1.out
          rw [Int.pow_succ] at this
          omega
        · have := HLF.out
          simp; omega
        · rw [HL.out, hexLow_step f' m hlt]; simp
        · unfold OwnB
          simpa using hown7
        · exact ext_grown (E.alloc _) hgrow (by intro k hk; simp [Value.ownBlock] at hk; omega)
      case measure => simp [intOf]; omega
    · obtain rfl : m = 0 := by omega
      have hl : 72 :: hexLow 4 n = l := by rw [HL.out, hexLow_zero]; simp
      have hrg : ∀ x ∈ l, 0 ≤ x ∧ x ≤ 255 := by
        intro x hx
        rw [← hl] at hx
        rcases List.mem_cons.1 hx with h | h
        · omega
        · have := hexLow_range 4 n (by omega) x h; omega
      rw [hl] at hS
      have hll : l.length ≤ 5 := by omega
      obtain ⟨l', y, rfl⟩ : ∃ l' y, l = l' ++ [y] := by
        rcases List.eq_nil_or_concat l with h | ⟨l', y, h⟩
        · rw [h] at hl; cases hl
        · exact ⟨l', y, by simpa using h⟩
      have HRG := Lib.hid hrg; clear hrg
      have HO := Lib.hid hO; clear hO
      have hy := HRG.out y (by simp)
      have hy0 := hy.1
      have hy1 := hy.2
      clear hl HL hlf
      have hlast : (l' ++ [y]).getLast?.getD 0 = y := by simp
      rw [hlast] at hS
      have kc := own_cell HO.out (j := l'.length) (u := .int .u8 y) (by simp)
      rw [List.length_append, List.length_singleton] at HO hll ⊢
      generalize hk : l'.length = k at *
      have HK := Lib.hid hk; clear hk
      have hxx : Ext w wr := E
      have hw0 := E.size
      by_cases h57 : 57 < y
      · rw [if_pos h57] at hS
        have hL2 : (l' ++ [y] ++ [48]).length = k + 1 + 1 := by simp; exact HK.out
        have HL2 := Lib.hid hL2; clear hL2
        have HR2 : Hid (∀ x ∈ l' ++ [y] ++ [48], 0 ≤ x ∧ x ≤ 255) := Lib.hid (by
          intro x hx
          rcases List.mem_append.1 hx with h | h
          · exact HRG.out x h
          · rw [List.mem_singleton.1 h]; omega)
        have HOA := Lib.hid (show wr.ownsRow w.heap.size 5 1 (.slice (some ⟨g, 0, none⟩) (k + 1) c) (k + 1) ((l' ++ [y]).map (Value.int .u8)) from by have := HO.out; unfold OwnB at this; rw [List.length_append, HK.out] at this; exact this)
        clear HO
        go_wp2_with (first
          | (at_builtin; refine wpList_append_own_at _ rfl _ _ _ rfl w.heap.size 5 i0 _ 1 1 Tryz.underlying22 hi0 hz0 hz1 hz2 rfl (by omega) (.slice (some ⟨g, 0, none⟩) (k + 1) c) (k + 1) _ (by rfl) (World.ownsRow.alloc HOA.out _) ⟨wr.heap.size, 0, none⟩ 1 1 [.int .u8 48] (by rfl) (by rfl) (World.news_of_block (cs := #[.int .u8 48]) (t := 5) (fr := (0, 0)) (heap_alloc_new _ _)) (by simp [Value.oneCell']) (by unfold maxLen; omega) (by omega) (by simp; omega) ?_; intro v7 w7 hown7 hgrow _ _; have hO7 : OwnB w7 w.heap.size v7 (l' ++ [y] ++ [48]) := (by unfold OwnB; rw [HL2.out]; simpa using hown7); obtain ⟨g7, c7, rfl, hg7⟩ := hO7.sliceN HL2.out (by omega); have HX7 := Lib.hid (ext_grown (hxx.alloc _) hgrow (by intro k hk; simp [Value.ownBlock] at hk; omega)); have HRV := Lib.hid (hO7.rev HX7.out); clear hown7 hgrow hO7)
          | (go_at_call 199; refine (rev_own w (l' ++ [y] ++ [48]) g7 _ c7 HL2.out hg7 (by omega) (by omega) HR2.out _ HRV.out).mono ?_; rintro e w8 ⟨rfl, k8, h81, h82, HS8⟩; have hcv := rev_conv (c := c7) HS8 h81 h82 HL2.out.symm; have HE8 := Lib.hid HS8.E; clear HS8 h81 h82))
        go_ret
        exact ⟨ret_str (by rw [hS.out]; simp), HE8.out⟩
      · rw [if_neg h57] at hS
        rw [List.append_nil] at hS
        have hL1 : (l' ++ [y]).length = k + 1 := by simp; exact HK.out
        have HL1 := Lib.hid hL1; clear hL1
        have HRV := Lib.hid (HO.out.rev hxx)
        clear HO
        go_wp2_with (go_at_call 199; refine (rev_own w (l' ++ [y]) g _ c HL1.out hgb (by omega) (by omega) HRG.out _ HRV.out).mono ?_; rintro e w8 ⟨rfl, k8, h81, h82, HS8⟩; have hcv := rev_conv (c := c) HS8 h81 h82 HL1.out.symm; have HE8 := Lib.hid HS8.E; clear HS8 h81 h82)
        go_ret
        exact ⟨ret_str (by rw [hS.out]; simp), HE8.out⟩

theorem shownum_any (n : Int) (h0 : 0 ≤ n) (h1 : n ≤ 65535) (w : World) : Calls Tryz.prog 174 #[.int .u16 n] w (RStr w (showN n)) := by
  by_cases h : n < 10
  · exact shownum_small n h0 h w
  · exact shownum_big n (by omega) h1 w
end

section
open Go.RowKit
set_option maxRecDepth 100000
set_option maxHeartbeats 1000000
set_option linter.unusedSimpArgs false
set_option linter.unusedVariables false

theorem show135_num (n m : Int) (h0 : 0 ≤ n) (h1 : n ≤ 65535) (w : World) : Calls Tryz.prog 135 #[.agg #[.string ⟨#[35]⟩, .int .u16 n, .string ⟨#[]⟩, .slice none 0 0], .int .i64 m] w (RStr w (showN n)) := by
  go_enter Tryz.func135, Tryz.ntmps135
  go_wp2_with (first
    | (go_at_call 150; refine (binds_num _).mono ?_; rintro e w1 ⟨rfl, rfl⟩)
    | (go_at_call 174; refine (shownum_any n h0 h1 _).mono ?_; rintro e w1 ⟨rfl, hx1⟩))
  go_ret
  exact ⟨rfl, ((Ext.refl _).alloc _).trans hx1⟩
theorem show135_nam (s : ByteArray) (m : Int) (w : World) : Calls Tryz.prog 135 #[.agg #[.string ⟨#[110]⟩, .int .u16 0, .string s, .slice none 0 0], .int .i64 m] w (RStr w s) := by
  go_enter Tryz.func135, Tryz.ntmps135
  go_wp2_with (go_at_call 150; refine (binds_nam _).mono ?_; rintro e w1 ⟨rfl, rfl⟩)
  go_ret
  exact ⟨rfl, (Ext.refl _).alloc _⟩
theorem show92_num (n : Int) (h0 : 0 ≤ n) (h1 : n ≤ 65535) (w : World) : Calls Tryz.prog 92 #[.agg #[.string ⟨#[35]⟩, .int .u16 n, .string ⟨#[]⟩, .slice none 0 0]] w fun e w' => e = .returned (.tuple #[.string (showN n), .int .i64 0]) ∧ Ext w w' := by
  go_enter Tryz.func92, Tryz.ntmps92
  go_wp2_with (first
    | (go_at_call 61; refine (right61_num n _).mono ?_; rintro e w1 ⟨rfl, hx1⟩; have B0 := (Blk.new w _ 39).ext hx1; have k0 := B0.cell)
    | (go_at_call 135; refine (show135_num n 1 h0 h1 _).mono ?_; rintro e w2 ⟨rfl, hx2⟩))
  go_ret2
  exact ⟨rfl, (((Ext.refl _).alloc _).trans hx1).trans hx2⟩
theorem show92_nam (s : ByteArray) (h : LabN s) (w : World) : Calls Tryz.prog 92 #[.agg #[.string ⟨#[110]⟩, .int .u16 0, .string s, .slice none 0 0]] w fun e w' => e = .returned (.tuple #[.string s, .int .i64 0]) ∧ Ext w w' := by
  have H := Lib.hid h; clear h
  go_enter Tryz.func92, Tryz.ntmps92
  go_wp2_with (first
    | (go_at_call 61; refine (right61_nam s H.out _).mono ?_; rintro e w1 ⟨rfl, hx1⟩; have B0 := (Blk.new w _ 39).ext hx1; have k0 := B0.cell)
    | (go_at_call 135; refine (show135_nam s 1 _).mono ?_; rintro e w2 ⟨rfl, hx2⟩))
  go_ret2
  exact ⟨rfl, (((Ext.refl _).alloc _).trans hx1).trans hx2⟩

/-- An operand's text. -/
def argT (d : Int) (a : AR) : ByteArray :=
  if a.word.data.isEmpty = true then
    (if a.mem = true then (if (d == 2) = true then ⟨#[91] ++ (showN a.n).data ++ #[93]⟩ else ⟨#[40] ++ (showN a.n).data ++ #[41]⟩)
     else if isS a.op [35] = true then showN a.n else a.name)
  else a.word

theorem show47_word (d : Int) (s : ByteArray) (hs : s.toList.isEmpty = false) (w : World) : Calls Tryz.prog 47 #[.int .i64 d, .agg #[.string s, .string ⟨#[]⟩, .bool false, .bool false, .string ⟨#[]⟩, .int .u16 0, .string ⟨#[]⟩, .slice none 0 0]] w (RStr w s) := by
  go_enter Tryz.func47, Tryz.ntmps47
  go_wp2
  go_ret
  exact ⟨rfl, (Ext.refl _).alloc _⟩
theorem show47_nam (d : Int) (s : ByteArray) (h : LabN s) (w : World) : Calls Tryz.prog 47 #[.int .i64 d, .agg #[.string ⟨#[]⟩, .string ⟨#[]⟩, .bool false, .bool false, .string ⟨#[110]⟩, .int .u16 0, .string s, .slice none 0 0]] w (RStr w s) := by
  have H := Lib.hid h; clear h
  go_enter Tryz.func47, Tryz.ntmps47
  go_wp2_with (go_at_call 92; refine (show92_nam s H.out _).mono ?_; rintro e w1 ⟨rfl, hx1⟩; have B0 := (Blk.new w _ 41).ext hx1; have k0 := B0.cell)
  go_ret
  exact ⟨rfl, ((Ext.refl _).alloc _).trans hx1⟩
theorem showN_size (n : Int) : (showN n).size ≤ 7 := by
  unfold showN
  rw [strOfNums_size]
  unfold showL
  split
  · simp
  · have : ∀ f n, (hexLow f n).length ≤ f := by
      intro f
      induction f with
      | zero => intro n; simp [hexLow]
      | succ f ih => intro n; simp only [hexLow]; split
                     · simp
                     · simp [ih]
    have h4 := this 4 n
    rw [List.length_reverse, List.length_append]
    split <;> simp <;> omega
theorem cat3 (a b c : ByteArray) : a ++ b ++ c = ⟨a.data ++ b.data ++ c.data⟩ := by
  apply ByteArray.ext
  simp
theorem show47_num (d n : Int) (mem : Bool) (h0 : 0 ≤ n) (h1 : n ≤ 65535) (w : World) : Calls Tryz.prog 47 #[.int .i64 d, .agg #[.string ⟨#[]⟩, .string ⟨#[]⟩, .bool false, .bool mem, .string ⟨#[35]⟩, .int .u16 n, .string ⟨#[]⟩, .slice none 0 0]] w (RStr w (argT d (numA mem n))) := by
  have hz := showN_size n
  have HS := Lib.hid (show showN n = showN n from rfl)
  cases mem with
  | false =>
    have HA : Hid (argT d (numA false n) = showN n) := Lib.hid rfl
    go_enter Tryz.func47, Tryz.ntmps47
    go_wp2_with (go_at_call 92; refine (show92_num n h0 h1 _).mono ?_; rintro e w1 ⟨rfl, hx1⟩; have B0 := (Blk.new w _ 41).ext hx1; have k0 := B0.cell)
    go_ret
    exact ⟨ret_str HA.out.symm, ((Ext.refl _).alloc _).trans hx1⟩
  | true =>
    rcases Bool.eq_false_or_eq_true (d == 2) with hd | hd
    · have HA : Hid (argT d (numA true n) = ⟨#[91] ++ (showN n).data ++ #[93]⟩) := Lib.hid (show (if (d == 2) = true then _ else _) = _ from if_pos hd)
      go_enter Tryz.func47, Tryz.ntmps47
      go_wp2_with (go_at_call 92; refine (show92_num n h0 h1 _).mono ?_; rintro e w1 ⟨rfl, hx1⟩; have B0 := (Blk.new w _ 41).ext hx1; have k0 := B0.cell)
      go_ret
      exact ⟨ret_str ((cat3 _ _ _).trans HA.out.symm), ((Ext.refl _).alloc _).trans hx1⟩
    · have HA : Hid (argT d (numA true n) = ⟨#[40] ++ (showN n).data ++ #[41]⟩) := Lib.hid (show (if (d == 2) = true then _ else _) = _ from if_neg (by rw [hd]; simp))
      go_enter Tryz.func47, Tryz.ntmps47
      go_wp2_with (go_at_call 92; refine (show92_num n h0 h1 _).mono ?_; rintro e w1 ⟨rfl, hx1⟩; have B0 := (Blk.new w _ 41).ext hx1; have k0 := B0.cell)
      go_ret
      exact ⟨ret_str ((cat3 _ _ _).trans HA.out.symm), ((Ext.refl _).alloc _).trans hx1⟩

theorem show47_any (d : Int) (a : AR) (h : ARF d a) (hn : 0 ≤ a.n ∧ a.n ≤ 65535) (w : World) : Calls Tryz.prog 47 #[.int .i64 d, .agg #[.string a.word, .string ⟨#[]⟩, .bool false, .bool a.mem, .string a.op, .int .u16 a.n, .string a.name, .slice none 0 0]] w (RStr w (argT d a)) := by
  rcases h with ⟨s, hs, hw, rfl⟩ | ⟨m, n, hm, rfl⟩ | ⟨s, hs, rfl⟩
  · have hA : argT d (wordA s) = s := by
      show (if s.data.isEmpty = true then _ else s) = s
      rw [if_neg]
      intro e
      rw [ByteArray.toList_eq] at hs
      rw [Array.isEmpty_iff] at e
      rw [e] at hs
      cases hs
    rw [hA]
    exact show47_word d s hs w
  · exact show47_num d n m hn.1 hn.2 w
  · exact show47_nam d s hs w
end
end Go.Proofs.YtnklmehphmidhaaGreatDoor
