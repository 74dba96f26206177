/- isa86: Read, of any bytes. -/
import Derived.Test.YtnklmehphmidhaaGreatDoorIzi
import Derived.Test.YtnklmehphmidhaaGreatDoorIzk
namespace Go.Proofs.YtnklmehphmidhaaGreatDoor
open Go.RowKit
set_option maxRecDepth 100000
set_option maxHeartbeats 1000000
set_option linter.unusedSimpArgs false
set_option linter.unusedVariables false

theorem read86_big (v : Value) (w : World) (b : List Int) (hb : Byts w v b) (h0 : 1 < b.length) : Calls Tryz.prog 70 #[v] w (RRead w (read86S b)) := by
  obtain ⟨x0, hx0⟩ : ∃ x, b.getD 0 0 = x := ⟨_, rfl⟩
  obtain ⟨x1, hx1⟩ : ∃ x, b.getD 1 0 = x := ⟨_, rfl⟩
  obtain ⟨⟨op, d, s⟩, hG⟩ : ∃ r, guessS x0 x1 = r := ⟨_, rfl⟩
  obtain ⟨⟨l, t⟩, hH⟩ : ∃ r, headsS op d s = r := ⟨_, rfl⟩
  have hHD : hdS b x1 = (l, t) := by simp only [hdS, hx0, hG, hH]
  have hR : read86S b = if hitN b l x1 = true then takeS b x1 else ⟨0, 0, 0, 0, 0, 12⟩ := by
    unfold read86S secsS
    rw [if_neg (by omega), if_pos h0, hx1]
    simp only [scanS, hHD]
  have hT : takeS b x1 = if (b.length : Int) < hsizeS l.length t then ⟨0, 0, 0, 0, 0, 2⟩ else ⟨op, d, s, valS b l.length t, hsizeS l.length t, 0⟩ := by
    unfold takeS
    simp only [hHD, hx0, hG]
  have hll := headsS_len op d s
  rw [hH] at hll
  have hbr : ∃ r, b = x0 :: x1 :: r := by
    match b, h0, hx0, hx1 with
    | y0 :: y1 :: r, _, e0, e1 => exact ⟨r, by simp at e0 e1; rw [e0, e1]⟩
  have hm1 : min 1 b.length = 1 := by omega
  have hm2 : min 2 b.length = 2 := by omega
  have ht1 : b.take 1 = [x0] := by obtain ⟨r, rfl⟩ := hbr; rfl
  have ht2 : b.take 2 = [x0, x1] := by obtain ⟨r, rfl⟩ := hbr; rfl
  rcases short_cases hll with rfl | ⟨x, rfl⟩ | ⟨x, y, rfl⟩
  · have hh : hitN b [] x1 = false := by simp [hitN]
    rw [hR, hh]
    exact read86_skip20 v w b hb h0 x0 x1 op d s t hx0 hx1 hG hH
  · by_cases hx : x = x0
    · have hx' := hx.symm
      subst hx'
      clear hx
      have hh : hitN b [x0] x1 = true := by
        unfold hitN
        simp only [List.length_cons, List.length_nil, Nat.zero_add, hm1, ht1]
        simp
      rw [hR, if_pos hh, hT]
      simp only [List.length_cons, List.length_nil, Nat.zero_add]
      by_cases hS : (b.length : Int) < hsizeS ((1 : Nat) : Int) t
      · rw [if_pos hS]
        exact read86_short21 v w b hb h0 x0 x1 op d s t hx0 hx1 hG hH _ rfl hS
      · rw [if_neg hS]
        by_cases t1 : t = 1
        · subst t1
          have hz : hsizeS ((1 : Nat) : Int) 1 = 2 := rfl
          rw [hz] at hS ⊢
          exact read86_hit11 v w b hb h0 x0 x1 op d s 1 hx0 hx1 hG rfl hH (by omega) _ rfl
        by_cases t2 : t = 2
        · subst t2
          have hz : hsizeS ((1 : Nat) : Int) 2 = 3 := rfl
          rw [hz] at hS ⊢
          exact read86_hit12 v w b hb h0 x0 x1 op d s 2 hx0 hx1 hG rfl hH (by omega) _ rfl _ rfl
        by_cases t3 : t = 3
        · subst t3
          have hz : hsizeS ((1 : Nat) : Int) 3 = 2 := rfl
          rw [hz] at hS ⊢
          by_cases hn : b.getD 1 0 < 128
          · have hv : valS b 1 3 = b.getD 1 0 := by unfold valS; rw [if_neg (by decide), if_pos rfl, if_pos hn]
            rw [hv]
            exact read86_hit13p v w b hb h0 x0 x1 op d s 3 hx0 hx1 hG rfl hH (by omega) _ rfl hn
          · have hv : valS b 1 3 = b.getD 1 0 + 65280 := by unfold valS; rw [if_neg (by decide), if_pos rfl, if_neg hn]
            rw [hv]
            exact read86_hit13n v w b hb h0 x0 x1 op d s 3 hx0 hx1 hG rfl hH (by omega) _ rfl (by omega)
        · have hz : hsizeS ((1 : Nat) : Int) t = 1 := by unfold hsizeS; rw [if_neg (by omega), if_neg (by omega)]; rfl
          have hv : valS b 1 t = 0 := by unfold valS; rw [if_neg t1, if_neg t3, if_neg t2]
          rw [hz, hv]
          exact read86_hit1o v w b hb h0 x0 x1 op d s t hx0 hx1 hG t1 t2 t3 hH (by omega)
    · have hne : ([x] == b.take 1) = false := by rw [ht1]; simp [hx]
      have hh : hitN b [x] x1 = false := by
        unfold hitN
        simp only [List.length_cons, List.length_nil, Nat.zero_add, hm1, ht1]
        simp [hx]
      rw [hR, hh]
      exact read86_skip21 v w b hb h0 x0 x1 op d s t hx0 hx1 hG x hH hne
  · by_cases hxy : x = x0 ∧ y = x1
    · obtain ⟨hx, hy⟩ := hxy
      have hx' := hx.symm
      have hy' := hy.symm
      subst hx'
      subst hy'
      clear hx hy
      have hh : hitN b [x0, x1] x1 = true := by
        unfold hitN
        simp only [List.length_cons, List.length_nil, Nat.zero_add, Nat.reduceAdd, hm2, ht2]
        simp
      rw [hR, if_pos hh, hT]
      simp only [List.length_cons, List.length_nil, Nat.zero_add, Nat.reduceAdd]
      by_cases hS : (b.length : Int) < hsizeS ((2 : Nat) : Int) t
      · rw [if_pos hS]
        exact read86_short22 v w b hb h0 x0 x1 op d s t hx0 hx1 hG hH _ rfl hS
      · rw [if_neg hS]
        by_cases t1 : t = 1
        · subst t1
          have hz : hsizeS ((2 : Nat) : Int) 1 = 3 := rfl
          rw [hz] at hS ⊢
          exact read86_hit21 v w b hb h0 x0 x1 op d s 1 hx0 hx1 hG rfl hH (by omega) _ rfl
        by_cases t2 : t = 2
        · subst t2
          have hz : hsizeS ((2 : Nat) : Int) 2 = 4 := rfl
          rw [hz] at hS ⊢
          exact read86_hit22 v w b hb h0 x0 x1 op d s 2 hx0 hx1 hG rfl hH (by omega) _ rfl _ rfl
        by_cases t3 : t = 3
        · subst t3
          have hz : hsizeS ((2 : Nat) : Int) 3 = 3 := rfl
          rw [hz] at hS ⊢
          by_cases hn : b.getD 2 0 < 128
          · have hv : valS b 2 3 = b.getD 2 0 := by unfold valS; rw [if_neg (by decide), if_pos rfl, if_pos hn]
            rw [hv]
            exact read86_hit23p v w b hb h0 x0 x1 op d s 3 hx0 hx1 hG rfl hH (by omega) _ rfl hn
          · have hv : valS b 2 3 = b.getD 2 0 + 65280 := by unfold valS; rw [if_neg (by decide), if_pos rfl, if_neg hn]
            rw [hv]
            exact read86_hit23n v w b hb h0 x0 x1 op d s 3 hx0 hx1 hG rfl hH (by omega) _ rfl (by omega)
        · have hz : hsizeS ((2 : Nat) : Int) t = 2 := by unfold hsizeS; rw [if_neg (by omega), if_neg (by omega)]; rfl
          have hv : valS b 2 t = 0 := by unfold valS; rw [if_neg t1, if_neg t3, if_neg t2]
          rw [hz, hv]
          exact read86_hit2o v w b hb h0 x0 x1 op d s t hx0 hx1 hG t1 t2 t3 hH (by omega)
    · have hne : ([x, y] == b.take 2) = false := by rw [ht2]; simpa using hxy
      have hh : hitN b [x, y] x1 = false := by
        unfold hitN
        simp only [List.length_cons, List.length_nil, Nat.zero_add, Nat.reduceAdd, hm2, ht2]
        simp
        intro e1 e2
        exact absurd ⟨e1, e2⟩ hxy
      rw [hR, hh]
      exact read86_skip22 v w b hb h0 x0 x1 op d s t hx0 hx1 hG x y hH hne

theorem read86_any (v : Value) (w : World) (b : List Int) (hb : Byts w v b) : Calls Tryz.prog 70 #[v] w (RRead w (read86S b)) := by
  by_cases h0 : b.length = 0
  · exact read86_nil v w b hb h0
  by_cases h1 : 1 < b.length
  · exact read86_big v w b hb h1
  · match b, h0, h1, hb with
    | [x0], _, _, hb => exact read86_one v w x0 hb
    | [], h0, _, _ => exact absurd rfl h0
    | _ :: _ :: _, _, h1, _ => exact absurd (by simp) h1
end Go.Proofs.YtnklmehphmidhaaGreatDoor
