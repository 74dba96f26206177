/- DisasmPlaces: the plain law. -/
import Derived.Test.YtnklmehphmidhaaGreatDoorUna
namespace Go.Proofs.YtnklmehphmidhaaGreatDoor
open Go.RowKit
set_option maxRecDepth 100000
set_option maxHeartbeats 1000000
set_option linter.unusedSimpArgs false
set_option linter.unusedVariables false

/-- What both mnemonics have alike of a piece. -/
def sig (x : Int × Piece) : Int × Int × Bool := (x.1, x.2.tgt, isS x.2.op [68, 66])
theorem f80_alike (p : Int) (b : List Int) (hr : ∀ x ∈ b, 0 ≤ x ∧ x ≤ 255) (hb : 0 < b.length) : (F80 0 p b).size = (F80 1 p b).size ∧ (F80 0 p b).tgt = (F80 1 p b).tgt ∧ isS (F80 0 p b).op [68, 66] = isS (F80 1 p b).op [68, 66] := by
  by_cases hk : (readS b).2.2.2 = 0
  · obtain ⟨h1, h2, h3, h4, h5, h6⟩ := readS_facts hr hb hk
    have e : ∀ d, F80 d p b = ⟨nameOf (wordsD d (readS b).1), if rstB (readS b).1 = true then [numA false (if d = 1 then (readS b).1 / 8 % 8 * 8 else (readS b).1 / 8 % 8)] else (wordsD d (readS b).1).tail.map (operandS · (readS b).2.1), (readS b).2.2.1, if jumpsB (readS b).1 = true then (readS b).2.1 else -1⟩ := fun d => if_neg (by simpa using hk)
    rw [e 0, e 1]
    refine ⟨rfl, rfl, ?_⟩
    show isS (nameOf (wordsD 0 (readS b).1)) [68, 66] = isS (nameOf (wordsD 1 (readS b).1)) [68, 66]
    rw [noDb_at 0 (.inl rfl) _ h2.1 (by omega) (by omega), noDb_at 1 (.inr rfl) _ h2.1 (by omega) (by omega)]
  · have e : ∀ d, F80 d p b = ⟨⟨#[68, 66]⟩, [numA false (b.getD 0 0)], 1, -1⟩ := fun d => if_pos hk
    rw [e 0, e 1]
    exact ⟨rfl, rfl, rfl⟩

theorem sweep_sig : ∀ (f : Nat) (p : Int) (b : List Int), (∀ x ∈ b, 0 ≤ x ∧ x ≤ 255) → (sweepS (F80 0) f p b).map sig = (sweepS (F80 1) f p b).map sig
  | 0, _, _, _ => rfl
  | f + 1, p, b, hr => by
    simp only [sweepS]
    by_cases hb : b.length = 0
    · rw [if_pos hb, if_pos hb]
    · rw [if_neg hb, if_neg hb]
      obtain ⟨h1, h2, h3⟩ := f80_alike p b hr (by omega)
      rw [List.map_cons, List.map_cons, ← h1, sweep_sig f _ _ (fun x hx => hr x (List.mem_of_mem_drop hx))]
      congr 1
      show (p, (F80 0 p b).tgt, isS (F80 0 p b).op [68, 66]) = (p, (F80 1 p b).tgt, isS (F80 1 p b).op [68, 66])
      rw [h2, h3]

theorem want_sig {l m : List (Int × Piece)} (h : l.map sig = m.map sig) : wantB l = wantB m := by
  have key : ∀ l : List (Int × Piece), wantB l = fun x => (l.map sig).any (fun s => x == s.2.1) := by
    intro l; funext x; unfold wantB; rw [List.any_map]; rfl
  rw [key l, key m, h]
theorem mark_sig {l m : List (Int × Piece)} (W : Int → Bool) (h : l.map sig = m.map sig) : markL W l = markL W m := by
  have key : ∀ (l : List (Int × Piece)) (acc : List Int), l.foldl (markStep W) acc = (l.map sig).foldl (fun acc s => if W s.1 = true ∧ acc.length < 1000 then (if markB acc s.1 = true then acc else acc ++ [s.1]) else acc) acc := by
    intro l
    induction l with
    | nil => intro acc; rfl
    | cons a l ih => intro acc; rw [List.foldl_cons, List.map_cons, List.foldl_cons, ih]; rfl
  unfold markL
  rw [key l, key m, h]

theorem places_plain (p : Int) (b : List Int) (hr : ∀ x ∈ b, 0 ≤ x ∧ x ≤ 255) (h0 : 0 ≤ p) (h1 : p + b.length ≤ 65536) :
    ∃ l m, stmtsS (F80 0) 0 p b = (l, 0) ∧ stmtsS (F80 1) 1 p b = (m, 0) ∧ l.length = m.length ∧ (l.length = 0 ↔ b.length = 0) ∧
      ∀ (k : Nat) s t, l[k]? = some s → m[k]? = some t → s.label = t.label ∧ isS s.op [68, 66] = isS t.op [68, 66] ∧ s.args.length ≤ 2 := by
  by_cases hb : b.length = 0
  · have e : ∀ d, d = 0 ∨ d = 1 → stmtsS (F80 d) d p b = ([], 0) := by
      intro d hd
      unfold stmtsS
      rw [if_neg (by omega), if_neg (by omega), if_pos hb]
    exact ⟨[], [], e 0 (.inl rfl), e 1 (.inr rfl), rfl, by simp [hb], by intro k s t h; simp at h⟩
  · have e : ∀ d, d = 0 ∨ d = 1 → stmtsS (F80 d) d p b = (allS (sweepS (F80 d) b.length p b) p, 0) := by
      intro d hd
      unfold stmtsS
      rw [if_neg (by omega), if_neg (by omega), if_neg hb]
    have hs := sweep_sig b.length p b hr
    have hlen : (sweepS (F80 0) b.length p b).length = (sweepS (F80 1) b.length p b).length := by
      have := congrArg List.length hs
      simpa using this
    have hfine := fine80 0 (.inl rfl) p b hr
    rw [e 0 (.inl rfl)] at hfine
    refine ⟨_, _, e 0 (.inl rfl), e 1 (.inr rfl), ?_, ?_, ?_⟩
    · unfold allS; simp [hlen]
    · unfold allS; simp [hb]
    · intro k s t hk ht
      have hsl : s.args.length ≤ 2 := ((hfine.1 s (List.mem_of_getElem? hk)).1).len
      refine ⟨?_, ?_, hsl⟩
      all_goals
        unfold allS at hk ht
        rw [want_sig hs, mark_sig _ hs] at hk
        cases k with
        | zero =>
          simp only [List.getElem?_cons_zero, Option.some.injEq] at hk ht
          subst hk; subst ht; rfl
        | succ k =>
          rw [List.getElem?_cons_succ, List.getElem?_map] at hk ht
          have hks := congrArg (·[k]?) hs
          simp only [List.getElem?_map] at hks
          cases hx : (sweepS (F80 0) b.length p b)[k]? with
          | none => rw [hx] at hk; cases hk
          | some x =>
            cases hy : (sweepS (F80 1) b.length p b)[k]? with
            | none => rw [hy] at ht; cases ht
            | some y =>
              rw [hx] at hk hks; rw [hy] at ht hks
              simp only [Option.map_some, Option.some.injEq] at hk ht hks
              subst hk; subst ht
              have e1 : x.1 = y.1 := congrArg (fun s : Int × Int × Bool => s.1) hks
              have e3 : isS x.2.op [68, 66] = isS y.2.op [68, 66] := congrArg (fun s : Int × Int × Bool => s.2.2) hks
              first
                | exact e3
                | (show (if _ = true then labelS x.1 else _) = (if _ = true then labelS y.1 else _); rw [e1])
end Go.Proofs.YtnklmehphmidhaaGreatDoor
