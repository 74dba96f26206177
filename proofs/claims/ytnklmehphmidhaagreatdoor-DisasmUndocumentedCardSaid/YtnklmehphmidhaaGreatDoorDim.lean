/- The first instruction of the 8080's, in one. -/
import Derived.Test.YtnklmehphmidhaaGreatDoorDik
namespace Go.Proofs.YtnklmehphmidhaaGreatDoor
open Go.RowKit
set_option maxRecDepth 100000
set_option maxHeartbeats 4000000
set_option linter.unusedSimpArgs false
set_option linter.unusedVariables false

def wordsD (d o : Int) : List ByteArray := if d = 1 then formS o else wordsS o
def rstB (o : Int) : Bool := bits .and .u8 o 199 == 199
def F80 (d : Int) (_ : Int) (b : List Int) : Piece :=
  if (readS b).2.2.2 ≠ 0 then ⟨⟨#[68, 66]⟩, [numA false (b.getD 0 0)], 1, -1⟩
  else ⟨nameOf (wordsD d (readS b).1), if rstB (readS b).1 = true then [numA false (if d = 1 then (readS b).1 / 8 % 8 * 8 else (readS b).1 / 8 % 8)] else (wordsD d (readS b).1).tail.map (operandS · (readS b).2.1),
    (readS b).2.2.1, if jumpsB (readS b).1 = true then (readS b).2.1 else -1⟩

theorem readS_facts {b : List Int} (hr : ∀ x ∈ b, 0 ≤ x ∧ x ≤ 255) (hp : 0 < b.length) (hk : (readS b).2.2.2 = 0) :
    (readS b).1 = b.getD 0 0 ∧ (0 ≤ (readS b).1 ∧ (readS b).1 ≤ 255) ∧ (0 ≤ (readS b).2.1 ∧ (readS b).2.1 ≤ 65535) ∧ 1 ≤ (readS b).2.2.1 ∧ (readS b).2.2.1 ≤ b.length ∧ (readS b).2.2.1 = sizeL (wordsS (readS b).1) := by
  have r0 := getD_range hr 0
  have r1 := getD_range hr 1
  have r2 := getD_range hr 2
  have hs := sizeL_range (wordsS (b.getD 0 0))
  unfold readS at *
  rw [if_neg (by omega)] at *
  by_cases h1 : sizeL (wordsS (b.getD 0 0)) = 0
  · rw [if_pos h1] at hk; simp at hk
  · rw [if_neg h1] at *
    by_cases h2 : (b.length : Int) < sizeL (wordsS (b.getD 0 0))
    · rw [if_pos h2] at hk; simp at hk
    · rw [if_neg h2] at *
      refine ⟨rfl, r0, ?_, by simp only; omega, by simp only; omega, rfl⟩
      simp only
      split
      · omega
      · split <;> omega

theorem first80_any (d : Int) (hd : d = 0 ∨ d = 1) (p : Int) (b : List Int) (v : Value) (w : World) (hT : Tab w) (hb : Byts w v b) (hp : 0 < b.length) :
    Calls Tryz.prog 40 #[.int .i64 d, v] w (RPiece w (F80 d p b).op (F80 d p b).args (F80 d p b).size (F80 d p b).tgt) ∧ 1 ≤ (F80 d p b).size ∧ (F80 d p b).size ≤ b.length := by
  have hrg : ∀ x ∈ b, 0 ≤ x ∧ x ≤ 255 := by obtain ⟨_, _, _, _, _, h, _⟩ := hb; exact h
  by_cases hk : (readS b).2.2.2 = 0
  · obtain ⟨h1, h2, h3, h4, h5, _⟩ := readS_facts hrg hp hk
    rcases hR : readS b with ⟨o, n, size, k⟩
    rw [hR] at hk h1 h2 h3 h4 h5
    simp only at hk h1 h2 h3 h4 h5
    subst hk
    have hF : F80 d p b = ⟨nameOf (wordsD d o), if rstB o = true then [numA false (if d = 1 then o / 8 % 8 * 8 else o / 8 % 8)] else (wordsD d o).tail.map (operandS · n), size, if jumpsB o = true then n else -1⟩ := by
      unfold F80; rw [hR]; rfl
    rw [hF]
    refine ⟨?_, h4, h5⟩
    simp only
    rcases Bool.eq_false_or_eq_true (rstB o) with hrst | hrst
    · rw [if_pos hrst]
      rcases hd with rfl | rfl
      · exact first80_0r b v w hb hp o n size hR h2 h3 hrst _ rfl _ rfl trivial trivial
      · exact first80_1r b v w hb hp o n size hT hR h2 h3 hrst _ rfl _ rfl trivial trivial
    · rw [if_neg (by rw [hrst]; simp)]
      rcases hd with rfl | rfl
      · exact first80_0 b v w hb hp o n size hR h2 h3 hrst _ rfl _ rfl _ rfl (by rw [List.length_map]; rfl)
      · exact first80_1 b v w hb hp o n size hT hR h2 h3 hrst _ rfl _ rfl _ rfl (by rw [List.length_map]; rfl)
  · have hF : F80 d p b = ⟨⟨#[68, 66]⟩, [numA false (b.getD 0 0)], 1, -1⟩ := by unfold F80; rw [if_pos hk]
    rw [hF]
    exact ⟨first80_e d b v w hb hp hk, by simp, by simp; omega⟩

/-- disasm.Stmts in the 8080's mnemonics. -/
theorem stmts80_any (d : Int) (hd : d = 0 ∨ d = 1) (p0 : Int) (hp : i64ok p0) (b : List Int) (v : Value) (w : World) (hT : Tab w) (hb : Byts w v b) (hG : 0 ≤ p0 → p0 + b.length ≤ 65536 → ∀ x ∈ sweepS (F80 d) b.length p0 b, Good x) :
    Calls Tryz.prog 9 #[.int .i64 d, .int .i64 p0, v] w (RStmts w (stmtsS (F80 d) d p0 b)) := by
  refine stmts_any d (F80 d) w (fun p b v W hx hb hl _ _ => ?_) p0 hp b v w (Ext.refl w) hb hG
  have h := first80_any d hd p b v W (hT.ext hx) hb hl
  exact ⟨fun e => by omega, fun _ => h.1, h.2⟩
end Go.Proofs.YtnklmehphmidhaaGreatDoor
