/- The chapter's example: alive. -/
import Derived.Test.YtnklmehphmidhaaGreatDoorRhc
namespace Go.Proofs.YtnklmehphmidhaaGreatDoor
open Go.RowKit
set_option maxRecDepth 100000
set_option maxHeartbeats 2000000
set_option linter.unusedSimpArgs false
set_option linter.unusedVariables false

theorem Byts.alloc (w : World) (l : List Int) (hl : l.length ≤ 1000000) (hr : ∀ x ∈ l, 0 ≤ x ∧ x ≤ 255) (t : TypeId) (cs : Array Value) (hcs : cs = (l.map (Value.int .u8)).toArray) (n : Nat) (hn : n = l.length) :
    Byts (w.alloc (.cells cs t)) (.slice (some ⟨w.heap.size, 0, none⟩) n n) l := by
  subst hcs; subst hn
  refine ⟨_, _, rfl, Nat.le_refl _, by omega, hr, fun _ => ⟨_, _, rfl, by simp, fun j hj => ?_⟩⟩
  rw [World.cell?_alloc_at _ _ _ _ rfl]
  simp [List.getElem?_eq_getElem hj]

def aliveSt : List SR × Int := stmtsS (F80 0) 0 0 [195, 0, 0]
theorem alive_k : aliveSt.2 = 0 := by kernel_rfl
theorem alive_t : textS 0 aliveSt.1 = ⟨#[79, 82, 71, 32, 48, 10, 76, 48, 48, 48, 48, 58, 32, 74, 77, 80, 32, 76, 48, 48, 48, 48, 10]⟩ := by kernel_rfl

theorem alive_text (w : World) (hT : Tab w) : Calls Tryz.prog 12 #[.int .i64 0, .int .i64 0, .slice (some ⟨w.heap.size, 0, none⟩) 3 3] (w.alloc (.cells #[.int .u8 195, .int .u8 0, .int .u8 0] 5)) fun e w' =>
    e = .returned (.tuple #[.string ⟨#[79, 82, 71, 32, 48, 10, 76, 48, 48, 48, 48, 58, 32, 74, 77, 80, 32, 76, 48, 48, 48, 48, 10]⟩, .int .i64 0]) ∧ Ext (w.alloc (.cells #[.int .u8 195, .int .u8 0, .int .u8 0] 5)) w' := by
  have hrg : ∀ x ∈ ([195, 0, 0] : List Int), 0 ≤ x ∧ x ≤ 255 := by decide
  have hb := Byts.alloc w [195, 0, 0] (by simp) hrg 5 #[.int .u8 195, .int .u8 0, .int .u8 0] rfl 3 rfl
  have hT' := hT.ext ((Ext.refl w).alloc (.cells #[.int .u8 195, .int .u8 0, .int .u8 0] 5))
  have hS := stmts80 0 (.inl rfl) 0 (by unfold i64ok; omega) [195, 0, 0] _ _ hT' hb
  have hF := fine80 0 (.inl rfl) 0 [195, 0, 0] hrg
  have hk := alive_k
  have ht := alive_t
  unfold aliveSt at hk ht
  generalize stmtsS (F80 0) 0 0 [195, 0, 0] = r at *
  obtain ⟨l, k⟩ := r
  simp only at hk ht hF
  subst hk
  have := text_ok 0 0 (by omega) _ l _ hT' hS ⟨_, _, _, rfl⟩ (fun s hs => (hF.1 s hs).1) (fun s hs => (hF.1 s hs).2) (by omega)
  rw [ht] at this
  exact this

theorem alive_any (w : World) (hT : Tab w) : Calls Tryz.prog 8 #[] w (RBool w true) := by
  have HA := Lib.hid (alive_text w hT)
  clear hT
  go_enter Tryz.func8, Tryz.ntmps8
  go_wp2_with (go_at_call 12; refine HA.out.mono ?_; rintro e w1 ⟨rfl, hx1⟩)
  go_ret
  exact ⟨rfl, ((Ext.refl _).alloc _).trans hx1⟩
end Go.Proofs.YtnklmehphmidhaaGreatDoor
