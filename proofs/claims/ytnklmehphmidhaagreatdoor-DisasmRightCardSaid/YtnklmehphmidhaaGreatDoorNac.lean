/- DisasmRight: the plain law. -/
import Derived.Test.YtnklmehphmidhaaGreatDoorNab
namespace Go.Proofs.YtnklmehphmidhaaGreatDoor
open Go.RowKit
set_option maxRecDepth 100000
set_option maxHeartbeats 1000000
set_option linter.unusedSimpArgs false
set_option linter.unusedVariables false

/-- The first piece, in any dialect. -/
def FD (d : Int) (p : Int) (b : List Int) : Piece := if d = 2 then F86 p b else F80 d p b
theorem fd_ok (d : Int) (hd : 0 ≤ d ∧ d ≤ 2) (p : Int) (b : List Int) (hr : ∀ x ∈ b, 0 ≤ x ∧ x ≤ 255) (hb : 0 < b.length) : PieceOk d (FD d p b) ∧ 1 ≤ (FD d p b).size ∧ (FD d p b).size ≤ b.length := by
  by_cases h2 : d = 2
  · subst h2
    have e : FD 2 p b = F86 p b := if_pos rfl
    rw [e]; exact f86_ok p b hr hb
  · have e : FD d p b = F80 d p b := if_neg h2
    rw [e]; exact f80_ok d (by omega) p b hr hb

/-- No operand of a piece asks for a name. -/
def NoName (x : Piece) : Prop := ∀ a ∈ x.args, a.op ≠ ⟨#[110]⟩
theorem operandS_op (s : ByteArray) (n : Int) : (operandS s n).op ≠ ⟨#[110]⟩ := by
  unfold operandS
  split
  · show (⟨#[35]⟩ : ByteArray) ≠ ⟨#[110]⟩; decide
  · split
    · show (⟨#[35]⟩ : ByteArray) ≠ ⟨#[110]⟩; decide
    · show (⟨#[]⟩ : ByteArray) ≠ ⟨#[110]⟩; decide
theorem numA_op (m : Bool) (n : Int) : (numA m n).op ≠ ⟨#[110]⟩ := by show (⟨#[35]⟩ : ByteArray) ≠ ⟨#[110]⟩; decide
theorem f80_noname (d p : Int) (b : List Int) : NoName (F80 d p b) := by
  unfold F80 NoName
  intro a ha
  split at ha
  · simp only at ha
    rw [List.mem_singleton.1 ha]; exact numA_op _ _
  · simp only at ha
    split at ha
    · rw [List.mem_singleton.1 ha]; exact numA_op _ _
    · obtain ⟨t, _, rfl⟩ := List.mem_map.1 ha
      exact operandS_op _ _
theorem code86_op (c n : Int) : ∀ a ∈ code86 c n, a.op ≠ ⟨#[110]⟩ := by
  intro a ha
  unfold code86 at ha
  repeat' split at ha
  · simp at ha
  all_goals (rw [List.mem_singleton.1 ha]; exact operandS_op _ _)
theorem f86_noname (p : Int) (b : List Int) : NoName (F86 p b) := by
  unfold F86 NoName
  intro a ha
  split at ha
  · simp only at ha
    rw [List.mem_singleton.1 ha]; exact numA_op _ _
  · simp only at ha
    rcases List.mem_append.1 ha with ha | ha
    · exact code86_op _ _ a ha
    · exact code86_op _ _ a ha
theorem fd_noname (d p : Int) (b : List Int) : NoName (FD d p b) := by
  unfold FD
  split
  · exact f86_noname p b
  · exact f80_noname d p b
theorem sweep_any' (F : Int → List Int → Piece) (Q : Piece → Prop) (hF : ∀ p b, Q (F p b)) : ∀ (f : Nat) (p : Int) (b : List Int), ∀ x ∈ sweepS F f p b, Q x.2
  | 0, _, _, x, h => by simp [sweepS] at h
  | f + 1, p, b, x, h => by
    simp only [sweepS] at h
    split at h
    · simp at h
    · rcases List.mem_cons.1 h with h | h
      · subst h; exact hF p b
      · exact sweep_any' F Q hF f _ _ x h

/-- Each name that is asked for is a statement's label. -/
theorem asks_all (l : List (Int × Piece)) (p : Int) (hN : ∀ x ∈ l, NoName x.2) : ∀ s ∈ allS l p, ∀ a ∈ s.args, a.op = ⟨#[110]⟩ → ∃ t ∈ allS l p, t.label = a.name := by
  intro s hs a ha hop
  unfold allS at hs
  rcases List.mem_cons.1 hs with hs | hs
  · subst hs
    rw [List.mem_singleton.1 ha] at hop
    exact absurd hop (numA_op _ _)
  · obtain ⟨x, hx, rfl⟩ := List.mem_map.1 hs
    have ha' : a ∈ newArgs (markB (markL (wantB l) l)) x := ha
    unfold newArgs at ha'
    split at ha'
    · rename_i hm
      rcases List.mem_append.1 ha' with ha' | ha'
      · exact absurd hop (hN x hx a (List.dropLast_subset _ ha'))
      · rw [List.mem_singleton.1 ha']
        have h' : x.2.tgt ∈ markL (wantB l) l := by simpa [markB] using hm
        rcases markL_sub (wantB l) l [] _ h' with h | ⟨q, hq, e⟩
        · simp at h
        · refine ⟨stS (markB (markL (wantB l) l)) q, ?_, ?_⟩
          · unfold allS
            exact List.mem_cons_of_mem _ (List.mem_map.2 ⟨q, hq, rfl⟩)
          · show (if markB (markL (wantB l) l) q.1 = true then labelS q.1 else (⟨#[]⟩ : ByteArray)) = labelS x.2.tgt
            rw [e, if_pos hm]
    · exact absurd hop (hN x hx a ha')

theorem right_plain (d p : Int) (b : List Int) (hr : ∀ x ∈ b, 0 ≤ x ∧ x ≤ 255) (l : List SR) (h : stmtsS (FD d) d p b = (l, 0)) (hd : 0 ≤ d ∧ d ≤ 2) :
    (∀ s ∈ l, Fine d s) ∧ (∀ s ∈ l, ∀ a ∈ s.args, a.op = ⟨#[110]⟩ → ∃ t ∈ l, t.label = a.name) ∧ l.length ≤ 65537 := by
  have hf := fine_all (FD d) d p b hr (fun p b hr hb _ _ => fd_ok d hd p b hr hb)
  rw [h] at hf
  refine ⟨fun s hs => (hf.1 s hs).1, ?_, hf.2⟩
  unfold stmtsS at h
  split at h
  · cases h
  · split at h
    · cases h
    · split at h
      · have e : l = [] := by cases h; rfl
        subst e
        simp
      · have e : l = allS (sweepS (FD d) b.length p b) p := by cases h; rfl
        subst e
        exact asks_all _ p (sweep_any' (FD d) NoName (fd_noname d) _ p b)
theorem stmts_kind (d p : Int) (F : Int → List Int → Piece) (b : List Int) (h : (stmtsS F d p b).2 = 0) : 0 ≤ d ∧ d ≤ 2 := by
  unfold stmtsS at h
  split at h
  · simp at h
  · omega
theorem stmts_bad (d p : Int) (F : Int → List Int → Piece) (b : List Int) (h : (stmtsS F d p b).2 ≠ 0) : (stmtsS F d p b).1 = [] := by
  unfold stmtsS at h ⊢
  split
  · rfl
  · split
    · rfl
    · split
      · rfl
      · rename_i h1 h2 h3
        rw [if_neg h1, if_neg h2, if_neg h3] at h
        exact absurd rfl h
end Go.Proofs.YtnklmehphmidhaaGreatDoor
