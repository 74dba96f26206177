/- What the 8086's first instruction comes out as: it is right in its dialect. -/
import Derived.Test.YtnklmehphmidhaaGreatDoorNaa
namespace Go.Proofs.YtnklmehphmidhaaGreatDoor
open Go.RowKit
set_option maxRecDepth 100000
set_option maxHeartbeats 1000000
set_option linter.unusedSimpArgs false
set_option linter.unusedVariables false

theorem registerS_rng (x : Int) (h0 : 0 ≤ x) (b : Bool) : 1 ≤ registerS x b ∧ registerS x b ≤ 16 := by
  unfold registerS
  cases b <;> simp <;> omega
def Rng3 (r : Int × Int × Int) : Prop := (0 ≤ r.1 ∧ r.1 ≤ 55) ∧ (0 ≤ r.2.1 ∧ r.2.1 ≤ 20) ∧ (0 ≤ r.2.2 ∧ r.2.2 ≤ 20)
theorem Rng3.ite {c : Prop} [Decidable c] {x y : Int × Int × Int} (hx : c → Rng3 x) (hy : ¬ c → Rng3 y) : Rng3 (if c then x else y) := by
  split
  · exact hx ‹_›
  · exact hy ‹_›
theorem guess_rng (a m : Int) (h0 : 0 ≤ a) (h1 : a ≤ 255) (h2 : 0 ≤ m) (h3 : m ≤ 255) :
    (0 ≤ (guessS a m).1 ∧ (guessS a m).1 ≤ 55) ∧ (0 ≤ (guessS a m).2.1 ∧ (guessS a m).2.1 ≤ 20) ∧ (0 ≤ (guessS a m).2.2 ∧ (guessS a m).2.2 ≤ 20) := by
  have hi : ∀ x, -1 ≤ idxI aloneL x ∧ idxI aloneL x ≤ 9 := by
    intro x
    unfold idxI
    split
    · rename_i i hi
      have := (List.findIdx?_eq_some_iff_getElem.mp hi).1
      simp [aloneL] at this
      omega
    · omega
  have h := hi a
  have hA : (0 ≤ (aloneS a).1 ∧ (aloneS a).1 ≤ 55) ∧ (0 ≤ (aloneS a).2.1 ∧ (aloneS a).2.1 ≤ 20) ∧ (0 ≤ (aloneS a).2.2 ∧ (aloneS a).2.2 ≤ 20) := by
    unfold aloneS
    repeat' split
    all_goals first | omega | (simp only; omega)
  have rg : ∀ (x : Int) (b : Bool), 0 ≤ x → 1 ≤ registerS x b ∧ registerS x b ≤ 16 := fun x b hx => registerS_rng x hx b
  have g1 := rg m (wB a) h2
  have g2 := rg (m / 8) (wB a) (by omega)
  have g3 := rg a true h0
  have g4 := rg a false h0
  have hM : (0 ≤ (movedS a m (registerS (m / 8) (wB a)) (registerS m (wB a))).1 ∧ (movedS a m (registerS (m / 8) (wB a)) (registerS m (wB a))).1 ≤ 55) ∧ (0 ≤ (movedS a m (registerS (m / 8) (wB a)) (registerS m (wB a))).2.1 ∧ (movedS a m (registerS (m / 8) (wB a)) (registerS m (wB a))).2.1 ≤ 20) ∧ (0 ≤ (movedS a m (registerS (m / 8) (wB a)) (registerS m (wB a))).2.2 ∧ (movedS a m (registerS (m / 8) (wB a)) (registerS m (wB a))).2.2 ≤ 20) := by
    have hp : 0 ≤ placeS m (registerS m (wB a)) ∧ placeS m (registerS m (wB a)) ≤ 20 := by
      unfold placeS
      repeat' split
      all_goals omega
    unfold movedS
    split <;> first | omega | (simp only; omega)
  show Rng3 (guessS a m)
  replace hM : Rng3 (movedS a m (registerS (m / 8) (wB a)) (registerS m (wB a))) := hM
  replace hA : Rng3 (aloneS a) := hA
  unfold guessS
  generalize registerS m (wB a) = r1 at *
  generalize registerS (m / 8) (wB a) = r2 at *
  generalize registerS a true = r3 at *
  generalize registerS a false = r4 at *
  repeat' (with_reducible refine Rng3.ite (fun _ => ?_) (fun _ => ?_))
  all_goals first | assumption | (unfold Rng3; simp only; omega)

theorem guess_mfree (a m m' : Int) (h : mfree a = true) : guessS a m = guessS a m' := by
  unfold mfree at h
  simp only [Bool.and_eq_true, Bool.not_eq_true', Bool.and_eq_false_imp, decide_eq_true_eq, decide_eq_false_iff_not, bne_iff_ne, ne_eq] at h
  obtain ⟨⟨⟨⟨⟨⟨⟨⟨h1, h2⟩, h3⟩, h4⟩, h5⟩, h6⟩, h7⟩, h8⟩, h9⟩ := h
  have e1 : ¬ (a < 64 ∧ a % 8 < 2) := fun ⟨x, y⟩ => h1 x (by omega)
  have e2 : ¬ (a < 64 ∧ a % 8 = 2) := fun ⟨x, y⟩ => h1 x (by omega)
  unfold guessS
  rw [if_neg e1, if_neg e2, if_neg e1, if_neg e2]
  rw [if_neg h2, if_neg (by omega : ¬ (a = 134 ∨ a = 135)), if_neg (by omega : ¬ (a = 208 ∨ a = 209)), if_neg h7, if_neg (by omega : ¬ (a = 254 ∧ m / 64 = 0)), if_neg h8, if_neg h9]
  rw [if_neg h2, if_neg (by omega : ¬ (a = 134 ∨ a = 135)), if_neg (by omega : ¬ (a = 208 ∨ a = 209)), if_neg h7, if_neg (by omega : ¬ (a = 254 ∧ m' / 64 = 0)), if_neg h8, if_neg h9]

/-- A form that there is. -/
structure Form (op d s : Int) (l : List Int) (t : Int) : Prop where
  h : headsS op d s = (l, t)
  o : 0 ≤ op ∧ op ≤ 55
  d : 0 ≤ d ∧ d ≤ 20
  s : 0 ≤ s ∧ s ≤ 20
  ne : l ≠ []
theorem Form.chk {op d s : Int} {l : List Int} {t : Int} (h : Form op d s l t) :
    (∃ a r, l = a :: r ∧ (0 ≤ a ∧ a ≤ 255) ∧ guessS a (r.getD 0 0) = (op, d, s) ∧ r.length ≤ 1 ∧ (r.length = 1 ∨ mfree a = true) ∧ ∀ y ∈ r, 0 ≤ y ∧ y ≤ 255) ∧ 0 < (name86 op).size ∧ (jumps86 op = true → d = 20 ∧ s = 0) := by
  obtain ⟨hh, ⟨o0, o1⟩, ⟨d0, d1⟩, ⟨s0, s1⟩, hne⟩ := h
  obtain ⟨o, rfl⟩ := Int.eq_ofNat_of_zero_le o0
  obtain ⟨d, rfl⟩ := Int.eq_ofNat_of_zero_le d0
  obtain ⟨s, rfl⟩ := Int.eq_ofNat_of_zero_le s0
  have hc := List.all_eq_true.1 (List.all_eq_true.1 (List.all_eq_true.1 chk_all o (List.mem_range.2 (by omega))) d (List.mem_range.2 (by omega))) s (List.mem_range.2 (by omega))
  unfold Go.Proofs.YtnklmehphmidhaaGreatDoor.chk at hc
  rw [hh] at hc
  match l, hne with
  | a :: r, _ =>
    simp only [Bool.and_eq_true, Bool.or_eq_true, decide_eq_true_eq, beq_iff_eq, Bool.not_eq_true', List.all_eq_true] at hc
    obtain ⟨⟨⟨⟨⟨⟨⟨c1, c2⟩, c3⟩, c4⟩, c5⟩, c6⟩, c7⟩, c8⟩ := hc
    refine ⟨⟨a, r, rfl, ⟨c4, c5⟩, c1, c2, c3, c6⟩, c7, fun hj => ?_⟩
    rcases c8 with c8 | c8
    · rw [hj] at c8; cases c8
    · omega

/-- What was read. -/
structure Took (b : List Int) (r : R86) (l : List Int) (t : Int) : Prop where
  form : Form r.op r.d r.s l t
  gs : ∃ m, 0 ≤ m ∧ m ≤ 255 ∧ guessS (b.getD 0 0) m = (r.op, r.d, r.s) ∧ hitN b l m = true
  size : r.size = hsizeS l.length t
  le : r.size ≤ b.length
  n : r.n = valS b l.length t
theorem hsize_ge (n t : Int) : n ≤ hsizeS n t ∧ hsizeS n t ≤ n + 2 := by
  unfold hsizeS
  split
  · omega
  · split <;> omega
theorem hitN_ne {b l : List Int} {m : Int} (h : hitN b l m = true) : l ≠ [] := by
  rintro rfl
  simp [hitN] at h
theorem scan_took {b : List Int} (hr : ∀ x ∈ b, 0 ≤ x ∧ x ≤ 255) : ∀ (ms : List Int), (∀ m ∈ ms, 0 ≤ m ∧ m ≤ 255) → (scanS b ms).kind = 0 → ∃ l t, Took b (scanS b ms) l t
  | [], _, hk => by simp [scanS] at hk
  | m :: ms, hm, hk => by
    have r0 := getD_range hr 0
    have hm0 := hm m (by simp)
    rw [scanS] at hk ⊢
    by_cases hh : hitN b (hdS b m).1 m = true
    · rw [if_pos hh] at hk ⊢
      unfold takeS at hk ⊢
      by_cases hS : (b.length : Int) < hsizeS (hdS b m).1.length (hdS b m).2
      · rw [if_pos hS] at hk; simp at hk
      · rw [if_neg hS]
        have hg := guess_rng (b.getD 0 0) m r0.1 r0.2 hm0.1 hm0.2
        exact ⟨_, _, ⟨rfl, hg.1, hg.2.1, hg.2.2, hitN_ne hh⟩, ⟨m, hm0.1, hm0.2, rfl, hh⟩, rfl, by simp only; omega, rfl⟩
    · rw [if_neg hh] at hk ⊢
      exact scan_took hr ms (fun y hy => hm y (by simp [hy])) hk
theorem read86_took {b : List Int} (hr : ∀ x ∈ b, 0 ≤ x ∧ x ≤ 255) (hk : (read86S b).kind = 0) : ∃ l t, Took b (read86S b) l t := by
  unfold read86S at hk ⊢
  by_cases h0 : b.length = 0
  · rw [if_pos h0] at hk; simp at hk
  · rw [if_neg h0] at hk ⊢
    refine scan_took hr _ (fun m hm => ?_) hk
    unfold secsS at hm
    split at hm
    · rw [List.mem_singleton.1 hm]; exact getD_range hr 1
    · obtain ⟨n, hn, rfl⟩ := List.mem_map.1 hm
      have := List.mem_range.1 hn
      simp only [Int.ofNat_eq_natCast]
      omega
theorem valS_rng {b : List Int} (hr : ∀ x ∈ b, 0 ≤ x ∧ x ≤ 255) (n : Nat) (t : Int) : 0 ≤ valS b n t ∧ valS b n t ≤ 65535 := by
  have r0 := getD_range hr n
  have r1 := getD_range hr (n + 1)
  unfold valS
  repeat' split
  all_goals omega
theorem Took.more {b : List Int} {r : R86} {l : List Int} {t : Int} (hr : ∀ x ∈ b, 0 ≤ x ∧ x ≤ 255) (h : Took b r l t) : 1 ≤ r.size ∧ r.size ≤ b.length ∧ (0 ≤ r.n ∧ r.n ≤ 65535) := by
  refine ⟨?_, h.le, ?_⟩
  · have := (hsize_ge l.length t).1
    have hl : 0 < l.length := List.length_pos_iff.2 h.form.ne
    rw [h.size]; omega
  · rw [h.n]; exact valS_rng hr _ _

/-- Names and words of the 8086. -/
def nmOk (op : Nat) : Bool := decide ((name86 op).size = 0) || opOk (name86 op)
theorem nmOk_all : ((List.range 56).all nmOk) = true := by decide +kernel
def agOk (c : Nat) : Bool := decide (c = 0) || decide (c = 19) || decide (c = 20) || kindOk 2 (arg86 c)
theorem agOk_all : ((List.range 21).all agOk) = true := by decide +kernel
theorem num86_rng {p : Int} {r : R86} (h : 0 ≤ r.n ∧ r.n ≤ 65535) : 0 ≤ num86 p r ∧ num86 p r ≤ 65535 := by
  unfold num86
  split <;> omega
theorem code86_ok (c n : Int) (hc : 0 ≤ c ∧ c ≤ 20) (hn : 0 ≤ n ∧ n ≤ 65535) : (code86 c n).length ≤ 1 ∧ ∀ a ∈ code86 c n, ARF 2 a ∧ 0 ≤ a.n ∧ a.n ≤ 65535 := by
  obtain ⟨⟨k, rfl⟩, h1⟩ : (∃ k : Nat, c = k) ∧ c ≤ 20 := ⟨Int.eq_ofNat_of_zero_le hc.1, hc.2⟩
  have hk := List.all_eq_true.1 agOk_all k (List.mem_range.2 (by omega))
  unfold agOk at hk
  simp only [Bool.or_eq_true, decide_eq_true_eq] at hk
  unfold code86
  by_cases h0 : (k : Int) = 0
  · rw [if_pos h0]; exact ⟨by simp, by simp⟩
  rw [if_neg h0]
  by_cases h19 : (k : Int) = 19
  · rw [if_pos h19]
    refine ⟨by simp, fun a ha => ?_⟩
    rw [List.mem_singleton.1 ha]
    exact ⟨.inr (.inl ⟨true, n, .inr (by decide), rfl⟩), hn⟩
  rw [if_neg h19]
  by_cases h20 : (k : Int) = 20
  · rw [if_pos h20]
    refine ⟨by simp, fun a ha => ?_⟩
    rw [List.mem_singleton.1 ha]
    exact ⟨.inr (.inl ⟨false, n, .inl rfl, rfl⟩), hn⟩
  rw [if_neg h20]
  refine ⟨by simp, fun a ha => ?_⟩
  rw [List.mem_singleton.1 ha]
  rcases hk with ((hk | hk) | hk) | hk
  · omega
  · omega
  · omega
  · exact kind_ok hk 0 (by omega)

theorem f86_ok (p : Int) (b : List Int) (hr : ∀ x ∈ b, 0 ≤ x ∧ x ≤ 255) (hb : 0 < b.length) : PieceOk 2 (F86 p b) ∧ 1 ≤ (F86 p b).size ∧ (F86 p b).size ≤ b.length := by
  unfold F86
  by_cases hk : (read86S b).kind = 0
  · rw [if_neg (by simpa using hk)]
    obtain ⟨l, t, h⟩ := read86_took hr hk
    generalize read86S b = r at *
    obtain ⟨m1, m2, m3⟩ := h.more hr
    obtain ⟨_, c2, c3⟩ := h.form.chk
    have hn := num86_rng (p := p) m3
    have hd := code86_ok r.d (num86 p r) h.form.d hn
    have hs := code86_ok r.s (num86 p r) h.form.s hn
    obtain ⟨⟨o, ho⟩, o1⟩ : (∃ k : Nat, r.op = k) ∧ r.op ≤ 55 := ⟨Int.eq_ofNat_of_zero_le h.form.o.1, h.form.o.2⟩
    have hok := List.all_eq_true.1 nmOk_all o (List.mem_range.2 (by omega))
    unfold nmOk opOk at hok
    rw [← ho] at hok
    simp only [Bool.or_eq_true, Bool.and_eq_true, decide_eq_true_eq, Bool.not_eq_true'] at hok
    rcases hok with hok | ⟨⟨p1, p2⟩, p3⟩
    · omega
    refine ⟨⟨?_, ?_, ?_, ?_, not_empty p1, p2, p3, ?_, ?_⟩, m1, m2⟩
    · simp only; split <;> omega
    · simp only; split <;> omega
    · simp only
      intro ht
      split at ht
      · rename_i hj
        have := (c3 hj).1
        have hl : (code86 r.d (num86 p r)).length = 1 := by
          unfold code86
          rw [if_neg (by omega), if_neg (by omega), if_pos this]
          rfl
        rw [List.length_append, hl]
        omega
      · omega
    · simp only [List.length_append]; omega
    · intro a ha
      rcases List.mem_append.1 ha with ha | ha
      · exact (hd.2 a ha).1
      · exact (hs.2 a ha).1
    · intro a ha
      rcases List.mem_append.1 ha with ha | ha
      · exact (hd.2 a ha).2
      · exact (hs.2 a ha).2
  · rw [if_pos hk]
    have r0 := getD_range hr 0
    refine ⟨⟨by simp, by simp, by simp, by simp, not_empty (show 0 < (ByteArray.mk #[68, 66]).size by decide), by show greatB ⟨#[68, 66]⟩ = true; decide +kernel, by show inS ⟨#[68, 66]⟩ setsL = false; decide +kernel, ?_, ?_⟩, by simp, by simp; omega⟩
    · intro a ha
      rw [List.mem_singleton.1 ha]; exact .inr (.inl ⟨false, _, .inl rfl, rfl⟩)
    · intro a ha
      rw [List.mem_singleton.1 ha]
      show 0 ≤ b.getD 0 0 ∧ b.getD 0 0 ≤ 65535
      omega
end Go.Proofs.YtnklmehphmidhaaGreatDoor
