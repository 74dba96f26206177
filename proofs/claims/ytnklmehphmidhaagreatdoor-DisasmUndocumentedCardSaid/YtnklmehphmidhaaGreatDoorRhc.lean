/- The 8080's pieces are right. -/
import Derived.Test.YtnklmehphmidhaaGreatDoorRhb
namespace Go.Proofs.YtnklmehphmidhaaGreatDoor
open Go.RowKit
set_option maxRecDepth 100000
set_option maxHeartbeats 2000000
set_option linter.unusedSimpArgs false
set_option linter.unusedVariables false

/-- Is an operand's word of a form right? -/
def kindOk (d : Int) (t : ByteArray) : Bool :=
  if isS t [100, 56] = true ∨ isS t [100, 49, 54] = true ∨ isS t [110] = true ∨ isS t [110, 110] = true then true
  else if isS t [40, 110, 41] = true ∨ isS t [40, 110, 110, 41] = true then !(d == 0)
  else decide (0 < t.size) && wordB d t
theorem kind_ok {d : Int} {t : ByteArray} (h : kindOk d t = true) (n : Int) (hn : 0 ≤ n ∧ n ≤ 65535) : ARF d (operandS t n) ∧ 0 ≤ (operandS t n).n ∧ (operandS t n).n ≤ 65535 := by
  unfold kindOk at h
  unfold operandS
  split at h
  · rename_i h1
    rw [if_pos h1]
    exact ⟨.inr (.inl ⟨false, n, .inl rfl, rfl⟩), hn⟩
  · rename_i h1
    rw [if_neg h1]
    split at h
    · rename_i h2
      rw [if_pos h2]
      exact ⟨.inr (.inl ⟨true, n, .inr (by simpa using h), rfl⟩), hn⟩
    · rename_i h2
      rw [if_neg h2]
      simp only [Bool.and_eq_true, decide_eq_true_eq] at h
      exact ⟨.inl ⟨t, not_empty h.1, h.2, rfl⟩, by show (0 : Int) ≤ 0; omega, by show (0 : Int) ≤ 65535; omega⟩
def opOk (s : ByteArray) : Bool := decide (0 < s.size) && greatB s && !inS s setsL
def ok80 (d : Int) (o : Int) : Bool :=
  decide (sizeL (wordsS o) = 0) || (opOk (nameOf (wordsD d o)) && decide ((wordsD d o).tail.length ≤ 2) && (rstB o || (wordsD d o).tail.all (kindOk d)) && (!jumpsB o || decide (0 < (wordsD d o).tail.length)) && (!rstB o || !jumpsB o))
theorem ok80_all : ((List.range 256).all (fun k => ok80 0 (k : Nat)) && (List.range 256).all (fun k => ok80 1 (k : Nat))) = true := by kernel_rfl
theorem ok80_at (d : Int) (hd : d = 0 ∨ d = 1) (o : Int) (h0 : 0 ≤ o) (h1 : o < 256) : ok80 d o = true := by
  obtain ⟨n, rfl⟩ := Int.eq_ofNat_of_zero_le h0
  have h := ok80_all
  simp only [Bool.and_eq_true] at h
  rcases hd with rfl | rfl
  · exact List.all_eq_true.1 h.1 n (List.mem_range.2 (by omega))
  · exact List.all_eq_true.1 h.2 n (List.mem_range.2 (by omega))

theorem f80_ok (d : Int) (hd : d = 0 ∨ d = 1) (p : Int) (b : List Int) (hr : ∀ x ∈ b, 0 ≤ x ∧ x ≤ 255) (hb : 0 < b.length) : PieceOk d (F80 d p b) ∧ 1 ≤ (F80 d p b).size ∧ (F80 d p b).size ≤ b.length := by
  unfold F80
  by_cases hk : (readS b).2.2.2 = 0
  · rw [if_neg (by simpa using hk)]
    obtain ⟨h1, h2, h3, h4, h5, h6⟩ := readS_facts hr hb hk
    generalize (readS b).1 = o at *
    generalize (readS b).2.1 = n at *
    generalize (readS b).2.2.1 = sz at *
    have hok := ok80_at d hd o h2.1 (by omega)
    unfold ok80 opOk at hok
    simp only [Bool.or_eq_true, Bool.and_eq_true, decide_eq_true_eq, Bool.not_eq_true', List.all_eq_true] at hok
    rcases hok with hok | ⟨⟨⟨⟨⟨⟨o1, o2⟩, o3⟩, o4⟩, o5⟩, o6⟩, o7⟩
    · omega
    refine ⟨⟨?_, ?_, ?_, ?_, not_empty o1, o2, o3, ?_, ?_⟩, h4, h5⟩
    · simp only; split <;> omega
    · simp only; split <;> omega
    · simp only
      intro ht
      split
      · simp
      · rw [List.length_map]
        rcases o6 with o6 | o6
        · rw [if_neg (by rw [o6]; simp)] at ht; omega
        · exact o6
    · simp only
      split
      · simp
      · rw [List.length_map]; exact o4
    · simp only
      intro a ha
      split at ha
      · rw [List.mem_singleton.1 ha]; exact .inr (.inl ⟨false, _, .inl rfl, rfl⟩)
      · obtain ⟨t, ht, rfl⟩ := List.mem_map.1 ha
        rcases o5 with o5 | o5
        · exact absurd o5 ‹_›
        exact (kind_ok (o5 t ht) n h3).1
    · simp only
      intro a ha
      split at ha
      · rw [List.mem_singleton.1 ha]
        show 0 ≤ (if d = 1 then o / 8 % 8 * 8 else o / 8 % 8) ∧ (if d = 1 then o / 8 % 8 * 8 else o / 8 % 8) ≤ 65535
        split <;> omega
      · obtain ⟨t, ht, rfl⟩ := List.mem_map.1 ha
        rcases o5 with o5 | o5
        · exact absurd o5 ‹_›
        exact (kind_ok (o5 t ht) n h3).2
  · rw [if_pos hk]
    have r0 := getD_range hr 0
    refine ⟨⟨by simp, by simp, by simp, by simp, not_empty (show 0 < (ByteArray.mk #[68, 66]).size by decide), by show greatB ⟨#[68, 66]⟩ = true; decide +kernel, by show inS ⟨#[68, 66]⟩ setsL = false; decide +kernel, ?_, ?_⟩, by simp, by simp; omega⟩
    · intro a ha
      rw [List.mem_singleton.1 ha]; exact .inr (.inl ⟨false, _, .inl rfl, rfl⟩)
    · intro a ha
      rw [List.mem_singleton.1 ha]
      show 0 ≤ b.getD 0 0 ∧ b.getD 0 0 ≤ 65535
      omega

/-- disasm.Stmts in the 8080's mnemonics: no condition on the bytes. -/
theorem stmts80 (d : Int) (hd : d = 0 ∨ d = 1) (p0 : Int) (hp : i64ok p0) (b : List Int) (v : Value) (w : World) (hT : Tab w) (hb : Byts w v b) :
    Calls Tryz.prog 9 #[.int .i64 d, .int .i64 p0, v] w (RStmts w (stmtsS (F80 d) d p0 b)) := by
  have hrg : ∀ x ∈ b, 0 ≤ x ∧ x ≤ 255 := by obtain ⟨_, _, _, _, _, h, _⟩ := hb; exact h
  refine stmts80_any d hd p0 hp b v w hT hb (fun h0 h1 x hx => ?_)
  obtain ⟨h2, h3, h4⟩ := sweep_all (F80 d) (PieceOk d) (fun p b hr hb _ _ => f80_ok d hd p b hr hb) _ p0 b hrg h0 h1 x hx
  exact good_of h2 (by omega) (by omega)
theorem fine80 (d : Int) (hd : d = 0 ∨ d = 1) (p : Int) (b : List Int) (hr : ∀ x ∈ b, 0 ≤ x ∧ x ≤ 255) : (∀ s ∈ (stmtsS (F80 d) d p b).1, Fine d s ∧ NumOk s) ∧ (stmtsS (F80 d) d p b).1.length ≤ 65537 :=
  fine_all (F80 d) d p b hr (fun p b hr hb _ _ => f80_ok d hd p b hr hb)
end Go.Proofs.YtnklmehphmidhaaGreatDoor
