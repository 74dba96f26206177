/- A set of numbers: a map of the call's own, from int to bool. -/
import Derived.Test.YtnklmehphmidhaaGreatDoorDih
import Derived.Maps.OwnSet
namespace Go.Proofs.YtnklmehphmidhaaGreatDoor
open Go.RowKit
open Go.Maps (Keyed)
set_option maxRecDepth 100000
set_option maxHeartbeats 4000000
set_option linter.unusedSimpArgs false
set_option linter.unusedVariables false

theorem key3 : Keyed Tryz.prog 3 := Maps.int_keyed Tryz.underlying3
theorem zero4 (w : World) : (zeroValue 4).run Tryz.prog w = .ok (.bool false) w := by kernel_rfl

theorem plainElem_bool_inv {P : Program} {e : TypeId} (he : P.underlying e = some .bool) {v : Value} {z : DataW Unit × List MemPlace} (h : plainElem P e v = some z) : ∃ x, v = .bool x ∧ z = (.lit (.bool x), []) := by
  unfold plainElem at h
  rw [he] at h
  cases v <;> simp at h
  exact ⟨_, rfl, h.symm⟩

def i64ok (x : Int) : Prop := -9223372036854775808 ≤ x ∧ x ≤ 9223372036854775807
theorem i64ok.wf {x : Int} (h : i64ok x) : (Lit.int .i64 x).wf = true := by
  have h1 := h.1; have h2 := h.2
  have e1 : IntKind.i64.min = -9223372036854775808 := by decide
  have e2 : IntKind.i64.max = 9223372036854775807 := by decide
  simp [Lit.wf, e1, e2, h1, h2]

/-- Block b is a set: f tells what is in it; it has sz members. -/
def Marks (w : World) (b : Nat) (n : Nat) (f : Int → Bool) (sz : Nat) : Prop :=
  ∃ D : DataW Unit, w.ownsMap Tryz.prog 3 (plainElem Tryz.prog 4) b n D ∧ (∀ x, i64ok x → D.atKey (.int .i64 x) (.lit (.bool false)) = .lit (.bool (f x)) ∧ Maps.has D (.int .i64 x) = f x) ∧ Maps.size D = sz

theorem Marks.made (w : World) : Marks (w.alloc (.map #[] 0)) w.heap.size 0 (fun _ => false) 0 :=
  ⟨.map [], World.ownsMap_made _ _ _ _, fun x _ => ⟨rfl, rfl⟩, rfl⟩
theorem Marks.lt {w : World} {b n : Nat} {f : Int → Bool} {sz : Nat} (h : Marks w b n f sz) : b < w.heap.size := h.choose_spec.1.lt
theorem Marks.grown {w w' : World} {b n : Nat} {f : Int → Bool} {sz : Nat} {row : Option Nat} (h : Marks w b n f sz) (hg : w.grownBy w' row) (hne : some b ≠ row) : Marks w' b n f sz := by
  obtain ⟨D, h1, h2⟩ := h
  exact ⟨D, h1.kept hg hne, h2⟩
theorem Marks.ext {w w' : World} {b n : Nat} {f : Int → Bool} {sz : Nat} (h : Marks w b n f sz) (hx : Ext w w') : Marks w' b n f sz :=
  h.grown (row := none) ⟨hx.os, hx.tape, hx.output, hx.size, fun i hi _ => Below.block hx i hi⟩ (by simp)
theorem Marks.setCell {w : World} {b n : Nat} {f : Int → Bool} {sz : Nat} (h : Marks w b n f sz) {a : Addr} (ha : b ≠ a.block) (u : Value) : Marks (w.setCell a u) b n f sz := by
  obtain ⟨D, h1, h2⟩ := h
  exact ⟨D, h1.setCell ha u, h2⟩
theorem Marks.look {w : World} {b n : Nat} {f : Int → Bool} {sz : Nat} (h : Marks w b n f sz) {x : Int} (hx : i64ok x) : (Instr.lookup 48 (.map (some b)) (.int .i64 x) false).run Tryz.prog w = .ok (.bool (f x)) w := by
  obtain ⟨D, h1, h2, _⟩ := h
  obtain ⟨v, ps, hrun, hv⟩ := h1.lookup key3 Tryz.underlying48 (zero4 w) (plainElem_bool Tryz.underlying4 false) (Maps.keyOf_int_mk Tryz.underlying3 hx.wf)
  obtain ⟨y, rfl, hy⟩ := plainElem_bool_inv Tryz.underlying4 hv
  rw [hrun]
  have := congrArg Prod.fst hy
  rw [(h2 x hx).1] at this
  simp only [DataW.lit.injEq, Lit.bool.injEq] at this
  rw [this]
theorem Marks.len {w : World} {b n : Nat} {f : Int → Bool} {sz : Nat} (h : Marks w b n f sz) (ty : TypeId) : (Builtin.len_ #[48] ty #[.map (some b)]).run Tryz.prog w = .ok (.int .i64 sz) w := by
  obtain ⟨D, h1, _, rfl⟩ := h
  exact h1.len Tryz.underlying48 ty
theorem Marks.update {w : World} {b n : Nat} {f : Int → Bool} {sz : Nat} (h : Marks w b n f sz) (hn : n < 1000000) {x : Int} (hx : i64ok x) :
    ∃ w', (Instr.mapUpdate 48 (.map (some b)) (.int .i64 x) (.bool true)).run Tryz.prog w = .ok () w' ∧ Marks w' b (n + 1) (fun y => y == x || f y) (if f x = true then sz else sz + 1) ∧ w.grownBy w' (some b) := by
  obtain ⟨D, h1, h2, hs⟩ := h
  obtain ⟨w', hrun, hown, hg⟩ := h1.update key3 Tryz.underlying48 (by unfold maxLen; omega) (Maps.keyOf_int_mk Tryz.underlying3 hx.wf) (plainElem_bool Tryz.underlying4 true)
  have hk : WideAt.IsKeyLit (.int .i64 x) := trivial
  refine ⟨w', hrun, ⟨_, hown, fun y hy => ?_, ?_⟩, hg⟩
  · by_cases e : y = x
    · subst e
      rw [Maps.atKey_put_same h1.isMap hk, Maps.has_put_same h1.isMap hk]
      simp
    · have hne : Lit.int .i64 y ≠ Lit.int .i64 x := by simpa using e
      rw [Maps.atKey_put_other hne, Maps.has_put_other hne, (h2 y hy).1, (h2 y hy).2]
      simp [e]
  · rw [Maps.size_put (h1.tidy key3), (h2 x hx).2, hs]
end Go.Proofs.YtnklmehphmidhaaGreatDoor
