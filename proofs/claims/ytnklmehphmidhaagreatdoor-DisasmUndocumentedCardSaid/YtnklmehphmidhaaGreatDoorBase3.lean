/- Shared words: blocks of cells, results that lie in memory. -/
import Derived.Test.YtnklmehphmidhaaGreatDoorBase2
namespace Go.Proofs.YtnklmehphmidhaaGreatDoor
open Go.RowKit
set_option maxRecDepth 100000
set_option maxHeartbeats 4000000

/-- Block g is the row cs, not frozen. -/
def Blk (w : World) (g : Nat) (cs : Array Value) : Prop := ∃ t, w.heap[g]? = some (.cells cs t (0, 0))
theorem Blk.lt {w : World} {g : Nat} {cs : Array Value} (h : Blk w g cs) : g < w.heap.size := by
  obtain ⟨t, h⟩ := h
  exact (Array.getElem?_eq_some_iff.1 h).1
theorem Blk.cell {w : World} {g : Nat} {cs : Array Value} (h : Blk w g cs) (j : Nat) : w.cell? ⟨g, j, none⟩ = cs[j]? := by
  obtain ⟨t, h⟩ := h
  simp [World.cell?, h]
theorem Blk.frozen {w : World} {g : Nat} {cs : Array Value} (h : Blk w g cs) (j : Nat) : w.frozen? ⟨g, j, none⟩ = false := by
  obtain ⟨t, h⟩ := h
  simp [World.frozen?, h]
theorem Blk.new (w : World) (cs : Array Value) (t : TypeId) : Blk (w.alloc (.cells cs t)) w.heap.size cs := ⟨t, by simp [World.alloc, -World.alloc_eq]⟩
theorem Blk.ext {w w' : World} {g : Nat} {cs : Array Value} (h : Blk w g cs) (hx : Ext w w') : Blk w' g cs := by
  obtain ⟨t, h'⟩ := h
  exact ⟨t, by rw [Below.block hx g (Array.getElem?_eq_some_iff.1 h').1]; exact h'⟩
theorem Blk.alloc {w : World} {g : Nat} {cs : Array Value} (h : Blk w g cs) (o : Obj) : Blk (w.alloc o) g cs := h.ext ((Ext.refl _).alloc _)
theorem Blk.drew {w : World} {g : Nat} {cs : Array Value} (h : Blk w g cs) : Blk w.drew g cs := h
theorem Blk.drewN {w : World} {g : Nat} {cs : Array Value} (h : Blk w g cs) (n : Nat) : Blk (w.drewN n) g cs := h.ext ((Ext.refl _).drewN n)
theorem Blk.put {w : World} {g : Nat} {cs : Array Value} (h : Blk w g cs) (j : Nat) (v : Value) : Blk (w.setCell ⟨g, j, none⟩ v) g (cs.setIfInBounds j v) := by
  obtain ⟨t, h'⟩ := h
  refine ⟨t, ?_⟩
  simp [World.setCell, Array.getElem?_modify, h']
theorem Blk.other {w : World} {g : Nat} {cs : Array Value} (h : Blk w g cs) {a : Addr} (hne : g ≠ a.block) (v : Value) : Blk (w.setCell a v) g cs := by
  obtain ⟨t, h'⟩ := h
  exact ⟨t, by rw [Below.heap_setCell _ _ _ _ hne]; exact h'⟩

theorem res1 {fn : Func} {p T : Nat} (h : fn.results = #[.cell p T]) (tmps : Array Value) (P : Program) (w : World) (g : Nat) (v : Value) (ha : tmps.getD p undef = .pointer (some ⟨g, 0, none⟩))
    (hl : (loadVar T ⟨g, 0, none⟩).run P w = .ok v w) : (results fn tmps).run P w = .ok v w := by
  have hp : (asAddr (tmps.getD p undef)).run P w = .ok ⟨g, 0, none⟩ w := by rw [ha]; rfl
  simp only [results, h]
  simp [Sem.run_bind, Result.andThen, -Array.getD_eq_getD_getElem?, hp, hl]
theorem res2 {fn : Func} {p T u1 : Nat} (h : fn.results = #[.cell p T, .tmp u1]) (tmps : Array Value) (P : Program) (w : World) (g : Nat) (v : Value) (ha : tmps.getD p undef = .pointer (some ⟨g, 0, none⟩))
    (hl : (loadVar T ⟨g, 0, none⟩).run P w = .ok v w) : (results fn tmps).run P w = .ok (.tuple #[v, tmps.getD u1 undef]) w := by
  have hp : (asAddr (tmps.getD p undef)).run P w = .ok ⟨g, 0, none⟩ w := by rw [ha]; rfl
  simp only [results, h]
  simp [Sem.run_bind, Result.andThen, -Array.getD_eq_getD_getElem?, hp, hl]
theorem res3 {fn : Func} {p T u1 u2 : Nat} (h : fn.results = #[.cell p T, .tmp u1, .tmp u2]) (tmps : Array Value) (P : Program) (w : World) (g : Nat) (v : Value) (ha : tmps.getD p undef = .pointer (some ⟨g, 0, none⟩))
    (hl : (loadVar T ⟨g, 0, none⟩).run P w = .ok v w) : (results fn tmps).run P w = .ok (.tuple #[v, tmps.getD u1 undef, tmps.getD u2 undef]) w := by
  have hp : (asAddr (tmps.getD p undef)).run P w = .ok ⟨g, 0, none⟩ w := by rw [ha]; rfl
  simp only [results, h]
  simp [Sem.run_bind, Result.andThen, -Array.getD_eq_getD_getElem?, hp, hl]

theorem load41 {w : World} {g : Nat} {c0 c1 c2 c3 c4 c5 c6 c7 : Value} (h : Blk w g #[c0, c1, c2, c3, c4, c5, c6, c7]) : (loadVar 41 ⟨g, 0, none⟩).run Tryz.prog w = .ok (.agg #[c0, c1, c2, c3, c4, c5, c6, c7]) w := by
  have hc := h.cell
  simp [go_sem, hc]
theorem load31 {w : World} {g : Nat} {c0 c1 c2 c3 : Value} (h : Blk w g #[c0, c1, c2, c3]) : (loadVar 31 ⟨g, 0, none⟩).run Tryz.prog w = .ok (.agg #[c0, c1, c2, c3]) w := by
  have hc := h.cell
  simp [go_sem, hc]
theorem load39 {w : World} {g : Nat} {c0 c1 c2 c3 : Value} (h : Blk w g #[c0, c1, c2, c3]) : (loadVar 39 ⟨g, 0, none⟩).run Tryz.prog w = .ok (.agg #[c0, c1, c2, c3]) w := by
  have hc := h.cell
  simp [go_sem, hc]
end Go.Proofs.YtnklmehphmidhaaGreatDoor
