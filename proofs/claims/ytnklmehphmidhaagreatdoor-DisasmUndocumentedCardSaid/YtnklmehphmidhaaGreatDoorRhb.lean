/- Labels are names; statements of pieces are right. -/
import Derived.Test.YtnklmehphmidhaaGreatDoorRha
namespace Go.Proofs.YtnklmehphmidhaaGreatDoor
open Go.RowKit
set_option maxRecDepth 100000
set_option maxHeartbeats 2000000
set_option linter.unusedSimpArgs false
set_option linter.unusedVariables false

theorem byteI_nums (l : List Int) (h : ∀ x ∈ l, 0 ≤ x ∧ x ≤ 255) (i : Nat) (hi : i < l.length) : byteI (strOfNums l) i = l.getD i 0 := by
  unfold byteI
  rw [strOfNums_data]
  have hx := h (l[i]) (List.getElem_mem hi)
  simp only [List.getD_eq_getElem?_getD, List.getElem?_map, List.getElem?_eq_getElem hi, Option.map_some, Option.getD_some]
  rw [UInt8.toNat_ofNat']
  omega
theorem hexD_ok (x : Int) (h0 : 0 ≤ x) (h1 : x < 16) : okC false (hexD x) = true ∧ upI (hexD x) = hexD x ∧ 0 ≤ hexD x ∧ hexD x ≤ 255 := by
  obtain ⟨n, rfl⟩ := Int.eq_ofNat_of_zero_le h0
  have key : ∀ i : Fin 16, okC false (hexD (i.val : Nat)) = true ∧ upI (hexD (i.val : Nat)) = hexD (i.val : Nat) ∧ 0 ≤ hexD (i.val : Nat) ∧ hexD (i.val : Nat) ≤ 255 := by decide +kernel
  exact key ⟨n, by omega⟩
theorem inS_big {s : ByteArray} {l : List ByteArray} {n : Nat} (h : n < s.size) (hl : ∀ a ∈ l, a.size ≤ n) : inS s l = false := by
  rw [Bool.eq_false_iff]
  intro e
  have := inS_size e hl
  omega

theorem labN (n : Int) : LabN (labelS n) := by
  have h1 := hexD_ok (n / 16 / 16 / 16 % 16) (by omega) (by omega)
  have h2 := hexD_ok (n / 16 / 16 % 16) (by omega) (by omega)
  have h3 := hexD_ok (n / 16 % 16) (by omega) (by omega)
  have h4 := hexD_ok (n % 16) (by omega) (by omega)
  unfold labelS
  generalize hexD (n / 16 / 16 / 16 % 16) = a at *
  generalize hexD (n / 16 / 16 % 16) = b at *
  generalize hexD (n / 16 % 16) = c at *
  generalize hexD (n % 16) = e at *
  have hsz : (strOfNums [76, a, b, c, e]).size = 5 := strOfNums_size _
  have hrg : ∀ x ∈ [76, a, b, c, e], 0 ≤ x ∧ x ≤ 255 := by
    intro x hx
    simp only [List.mem_cons, List.mem_nil_iff, or_false] at hx
    rcases hx with rfl | rfl | rfl | rfl | rfl
    · omega
    · exact h1.2.2
    · exact h2.2.2
    · exact h3.2.2
    · exact h4.2.2
  have hb := fun i hi => byteI_nums [76, a, b, c, e] hrg i hi
  have b0 : byteI (strOfNums [76, a, b, c, e]) 0 = 76 := hb 0 (by simp)
  have b1 : byteI (strOfNums [76, a, b, c, e]) 1 = a := hb 1 (by simp)
  have b2 : byteI (strOfNums [76, a, b, c, e]) 2 = b := hb 2 (by simp)
  have b3 : byteI (strOfNums [76, a, b, c, e]) 3 = c := hb 3 (by simp)
  have b4 : byteI (strOfNums [76, a, b, c, e]) 4 = e := hb 4 (by simp)
  have hnm : nameB (strOfNums [76, a, b, c, e]) = true := by
    refine nameB_true (by omega) (by omega) (fun i hi => ?_)
    rcases (by omega : i = 0 ∨ i = 1 ∨ i = 2 ∨ i = 3 ∨ i = 4) with rfl | rfl | rfl | rfl | rfl
    · unfold okAt; rw [b0]; decide +kernel
    · unfold okAt; rw [b1]; exact h1.1
    · unfold okAt; rw [b2]; exact h2.1
    · unfold okAt; rw [b3]; exact h3.1
    · unfold okAt; rw [b4]; exact h4.1
  have hup : upperS (strOfNums [76, a, b, c, e]) = strOfNums [76, a, b, c, e] := by
    unfold upperS
    rw [hsz]
    have : List.range 5 = [0, 1, 2, 3, 4] := by decide
    rw [this]
    simp only [List.map_cons, List.map_nil, b0, b1, b2, b3, b4, h1.2.1, h2.2.1, h3.2.1, h4.2.1]
    rfl
  have hz3 : opsL.all (fun a => decide (a.size ≤ 4)) = true := by decide +kernel
  have hz4 : setsL.all (fun a => decide (a.size ≤ 4)) = true := by decide +kernel
  refine ⟨hnm, by rw [hup]; exact beq_self_eq_true _, inS_big (n := 4) (by omega) (fun a ha => by simpa using List.all_eq_true.1 hz3 a ha), fun d => ?_⟩
  unfold plainB greatB
  rw [hnm, hup, inS_big (n := 4) (by omega) (resL_size d), inS_big (n := 4) (by omega) (fun a ha => by simpa using List.all_eq_true.1 hz4 a ha)]
  simp [isS]

/-- A piece that is right. -/
structure PieceOk (d : Int) (x : Piece) : Prop where
  t0 : -1 ≤ x.tgt
  t1 : x.tgt ≤ 65535
  n0 : 0 ≤ x.tgt → 0 < x.args.length
  n1 : x.args.length ≤ 2
  opne : x.op.toList.isEmpty = false
  opg : greatB x.op = true
  opn : inS x.op setsL = false
  args : ∀ a ∈ x.args, ARF d a
  num : ∀ a ∈ x.args, 0 ≤ a.n ∧ a.n ≤ 65535

theorem sweep_all (F : Int → List Int → Piece) (Q : Piece → Prop) (hF : ∀ (p : Int) (b : List Int), (∀ x ∈ b, 0 ≤ x ∧ x ≤ 255) → 0 < b.length → 0 ≤ p → p + b.length ≤ 65536 → Q (F p b) ∧ 1 ≤ (F p b).size ∧ (F p b).size ≤ b.length) :
    ∀ (f : Nat) (p : Int) (b : List Int), (∀ x ∈ b, 0 ≤ x ∧ x ≤ 255) → 0 ≤ p → p + b.length ≤ 65536 → ∀ x ∈ sweepS F f p b, Q x.2 ∧ p ≤ x.1 ∧ x.1 < p + b.length
  | 0, p, b, _, _, _, x, h => by simp [sweepS] at h
  | f + 1, p, b, hr, h0, h1, x, h => by
    simp only [sweepS] at h
    split at h
    · simp at h
    · rename_i hb
      obtain ⟨q, s1, s2⟩ := hF p b hr (by omega) h0 h1
      rcases List.mem_cons.1 h with h | h
      · subst h; exact ⟨q, by simp, by simp; omega⟩
      · have hl : (b.drop (F p b).size.toNat).length = b.length - (F p b).size.toNat := List.length_drop
        obtain ⟨q2, a1, a2⟩ := sweep_all F Q hF f _ _ (fun y hy => hr y (List.mem_of_mem_drop hy)) (by omega) (by rw [hl]; omega) x h
        rw [hl] at a2
        exact ⟨q2, by omega, by omega⟩

theorem good_of {d : Int} {x : Int × Piece} (h : PieceOk d x.2) (h0 : 0 ≤ x.1) (h1 : x.1 ≤ 65535) : Good x := ⟨h0, h1, h.t0, h.t1, h.n0, by have := h.n1; omega⟩
theorem fine_st {d : Int} {x : Int × Piece} (h : PieceOk d x.2) (m : Int → Bool) : Fine d (stS m x) ∧ NumOk (stS m x) := by
  have hargs : ∀ a ∈ newArgs m x, ARF d a ∧ 0 ≤ a.n ∧ a.n ≤ 65535 := by
    intro a ha
    unfold newArgs at ha
    split at ha
    · rcases List.mem_append.1 ha with ha | ha
      · exact ⟨h.args a (List.dropLast_subset _ ha), h.num a (List.dropLast_subset _ ha)⟩
      · rw [List.mem_singleton.1 ha]
        exact ⟨.inr (.inr ⟨_, labN _, rfl⟩), by show (0 : Int) ≤ 0; omega, by show (0 : Int) ≤ 65535; omega⟩
    · exact ⟨h.args a ha, h.num a ha⟩
  refine ⟨⟨?_, h.opne, h.opg, h.opn, ?_, fun a ha => (hargs a ha).1⟩, fun a ha => (hargs a ha).2⟩
  · show ((if m x.1 = true then labelS x.1 else (⟨#[]⟩ : ByteArray)) = ⟨#[]⟩ ∧ m x.1 = false) ∨ (LabN (if m x.1 = true then labelS x.1 else (⟨#[]⟩ : ByteArray)) ∧ m x.1 = true)
    rcases Bool.eq_false_or_eq_true (m x.1) with e | e
    · right; rw [if_pos e]; exact ⟨labN _, e⟩
    · left; rw [if_neg (by rw [e]; simp)]; exact ⟨rfl, e⟩
  · show (newArgs m x).length ≤ 2
    have := h.n1
    unfold newArgs
    split
    · simp; omega
    · exact this
theorem fine_org (d p : Int) (h0 : 0 ≤ p) (h1 : p ≤ 65535) : Fine d (orgS p) ∧ NumOk (orgS p) := by
  have ha : ∀ a ∈ (orgS p).args, a = numA false p := by intro a ha; exact List.mem_singleton.1 ha
  refine ⟨⟨.inl ⟨rfl, rfl⟩, not_empty (show 0 < (ByteArray.mk #[79, 82, 71]).size by decide), ?_, ?_, (show 1 ≤ 2 by decide), fun a h => .inr (.inl ⟨false, p, .inl rfl, ha a h⟩)⟩, fun a h => by rw [ha a h]; exact ⟨h0, h1⟩⟩
  · show greatB ⟨#[79, 82, 71]⟩ = true; decide +kernel
  · show inS ⟨#[79, 82, 71]⟩ setsL = false; decide +kernel
theorem fine_all (F : Int → List Int → Piece) (d p : Int) (b : List Int) (hr : ∀ x ∈ b, 0 ≤ x ∧ x ≤ 255)
    (hF : ∀ (p : Int) (b : List Int), (∀ x ∈ b, 0 ≤ x ∧ x ≤ 255) → 0 < b.length → 0 ≤ p → p + b.length ≤ 65536 → PieceOk d (F p b) ∧ 1 ≤ (F p b).size ∧ (F p b).size ≤ b.length) :
    (∀ s ∈ (stmtsS F d p b).1, Fine d s ∧ NumOk s) ∧ (stmtsS F d p b).1.length ≤ 65537 := by
  unfold stmtsS
  split
  · simp
  · rename_i h1
    split
    · simp
    · rename_i h2
      split
      · simp
      · rename_i h3
        have hp : 0 ≤ p := by omega
        have hpl : p + b.length ≤ 65536 := by omega
        constructor
        · intro s hs
          rcases List.mem_cons.1 hs with hs | hs
          · subst hs; exact fine_org d p hp (by omega)
          · obtain ⟨x, hx, rfl⟩ := List.mem_map.1 hs
            exact fine_st (sweep_all F (PieceOk d) hF _ p b hr hp hpl x hx).1 _
        · show (_ :: List.map _ _).length ≤ _
          have := sweepS_len F b.length p b
          simp; omega
end Go.Proofs.YtnklmehphmidhaaGreatDoor
