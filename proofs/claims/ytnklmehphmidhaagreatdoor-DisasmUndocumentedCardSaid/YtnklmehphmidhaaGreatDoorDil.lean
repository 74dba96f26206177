/- Worlds that are alike but for some blocks. -/
import Derived.Test.YtnklmehphmidhaaGreatDoorDij
namespace Go.Proofs.YtnklmehphmidhaaGreatDoor
open Go.RowKit
set_option maxRecDepth 100000
set_option maxHeartbeats 4000000
set_option linter.unusedSimpArgs false
set_option linter.unusedVariables false

/-- w' is w but for blocks in B, and new ones. -/
structure Tr (B : Nat → Prop) (w w' : World) : Prop where
  os : w'.os = w.os
  tape : w'.tape = w.tape
  output : w'.output = w.output
  size : w.heap.size ≤ w'.heap.size
  block : ∀ b, b < w.heap.size → ¬ B b → w'.heap[b]? = w.heap[b]?
theorem Tr.of_ext {B : Nat → Prop} {w w' : World} (h : Ext w w') : Tr B w w' := ⟨h.os, h.tape, h.output, h.size, fun b hb _ => Below.block h b hb⟩
theorem Tr.of_grown {B : Nat → Prop} {w w' : World} {row : Option Nat} (h : w.grownBy w' row) (hB : ∀ b, row = some b → B b) : Tr B w w' :=
  ⟨h.os, h.tape, h.output, h.size, fun b hb hn => h.block b hb (fun e => hn (hB b e.symm))⟩
theorem Tr.trans {B : Nat → Prop} {a b c : World} (h : Tr B a b) (k : Tr B b c) : Tr B a c :=
  ⟨k.os.trans h.os, k.tape.trans h.tape, k.output.trans h.output, Nat.le_trans h.size k.size, fun i hi hn => (k.block i (Nat.lt_of_lt_of_le hi h.size) hn).trans (h.block i hi hn)⟩
theorem Tr.set {B : Nat → Prop} {w w' : World} (h : Tr B w w') {a : Addr} (ha : B a.block) (v : Value) : Tr B w (w'.setCell a v) :=
  ⟨h.os, h.tape, h.output, by simpa using h.size, fun i hi hn => by
    have hne : i ≠ a.block := fun e => hn (e ▸ ha)
    rw [Below.heap_setCell _ _ _ _ hne]
    exact h.block i hi hn⟩
theorem Tr.alloc {B : Nat → Prop} {w w' : World} (h : Tr B w w') (o : Obj) : Tr B w (w'.alloc o) := h.trans (Tr.of_ext ((Ext.refl _).alloc o))
theorem Tr.drew {B : Nat → Prop} {w w' : World} (h : Tr B w w') : Tr B w w'.drew := h.trans (Tr.of_ext (Ext.refl _).drew)
theorem Tr.mono {B B' : Nat → Prop} {w w' : World} (h : Tr B w w') (hB : ∀ b, B b → B' b) : Tr B' w w' := ⟨h.os, h.tape, h.output, h.size, fun i hi hn => h.block i hi (fun e => hn (hB i e))⟩
theorem Tr.own {B : Nat → Prop} {w w' : World} (t : Tr B w w') {base e size n : Nat} {v : Value} {xs : List Value} (h : w.ownsRow base e size v n xs) (hne : ∀ g, v.ownBlock = some g → ¬ B g) : w'.ownsRow base e size v n xs := by
  refine ⟨h.1, ?_⟩
  rcases h.2 with hn | ⟨g, cap, cur, rfl, hb, hgg, rest⟩
  · exact .inl hn
  · refine .inr ⟨g, cap, cur, rfl, hb, ?_, rest⟩
    rw [t.block g (Array.getElem?_eq_some_iff.1 hgg).1 (hne g rfl)]
    exact hgg
theorem Tr.args {B : Nat → Prop} {w w' : World} (t : Tr B w w') {base : Nat} {v : Value} {l : List AR} (h : Args w base v l) (hne : ∀ g, v.ownBlock = some g → ¬ B g) : Args w' base v l := t.own h hne
theorem Tr.marks {B : Nat → Prop} {w w' : World} (t : Tr B w w') {b n : Nat} {f : Int → Bool} {sz : Nat} (h : Marks w b n f sz) (hne : ¬ B b) : Marks w' b n f sz := by
  have hlt := h.lt
  obtain ⟨D, h1, h2⟩ := h
  obtain ⟨es, clock, hb, r⟩ := h1
  exact ⟨D, ⟨es, clock, (t.block b hlt hne).trans hb, r⟩, h2⟩
theorem Tr.ext {B : Nat → Prop} {w0 w w' : World} (t : Tr B w w') (h : Ext w0 w) (hB : ∀ b, B b → w0.heap.size ≤ b) : Ext w0 w' :=
  ⟨t.os.trans h.os, t.tape.trans h.tape, t.output.trans h.output, Nat.le_trans h.size t.size, fun i hi => (t.block i (Nat.lt_of_lt_of_le hi h.size) (fun e => absurd (hB i e) (by omega))).trans (Below.block h i hi)⟩
theorem Tr.blk {B : Nat → Prop} {w w' : World} (t : Tr B w w') {g : Nat} {cs : Array Value} (h : Blk w g cs) (hne : ¬ B g) : Blk w' g cs := by
  have hlt := h.lt
  obtain ⟨ty, h⟩ := h
  exact ⟨ty, (t.block g hlt hne).trans h⟩

def stPre (L : List PL) (m : Int → Bool) (V0 : Value) (p0 : Int) (k : Nat) : List SL := (⟨V0, orgS p0⟩ : SL) :: (L.take k).map (fun x => ⟨x.v, stS m (x.at_, x.p)⟩)
/-- The loop that lays the statements: behind k of them. -/
structure StSt (w w1 w4 : World) (L : List PL) (g c1 : Nat) (acc : List Int) (p0 : Int) (k : Nat) (vo : Value) (wr : World) : Prop where
  E : Ext w wr
  sz : w4.heap.size + 1 ≤ wr.heap.size
  R : wr.ownsRow w.heap.size 50 7 (.slice (some ⟨g, 0, none⟩) L.length c1) L.length (L.flatMap PL.cells)
  M : Marks wr (w1.heap.size + 1) L.length (markB acc) acc.length
  O : wr.ownsRow (w4.heap.size + 1) 31 4 vo (k + 1) ((stPre L (markB acc) (.slice (some ⟨w4.heap.size, 0, none⟩) 1 1) p0 k).flatMap SL.cells)
  A0 : Args wr w.heap.size (.slice (some ⟨w4.heap.size, 0, none⟩) 1 1) [numA false p0]
  AA : ∀ i x, L[i]? = some x → Args wr w.heap.size x.v (if i < k then newArgs (markB acc) (x.at_, x.p) else x.p.args)

theorem stPre_succ {L : List PL} {m : Int → Bool} {V0 : Value} {p0 : Int} {k : Nat} {x : PL} (hx : L[k]? = some x) : stPre L m V0 p0 (k + 1) = stPre L m V0 p0 k ++ [⟨x.v, stS m (x.at_, x.p)⟩] := by
  simp [stPre, List.take_add_one, hx]

theorem StSt.round {w w1 w4 wr w8 w10 : World} {L : List PL} {g c1 k : Nat} {acc : List Int} {p0 : Int} {vo v10 : Value} {x : PL}
    (h : StSt w w1 w4 L g c1 acc p0 k vo wr) (hx : L[k]? = some x) (P : Pieces w1 w.heap.size (.slice (some ⟨g, 0, none⟩) L.length c1) L) (E1 : Ext w w1) (hs4 : w1.heap.size + 2 ≤ w4.heap.size)
    (T8 : Tr (fun b => x.v.ownBlock = some b) wr w8) (hA8 : Args w8 w.heap.size x.v (newArgs (markB acc) (x.at_, x.p)))
    (T10 : Tr (fun b => b = wr.heap.size ∨ vo.ownBlock = some b) w8 w10)
    (hown : w10.ownsRow (w4.heap.size + 1) 31 4 v10 (k + 1 + 1) ((stPre L (markB acc) (.slice (some ⟨w4.heap.size, 0, none⟩) 1 1) p0 k).flatMap SL.cells ++ SL.cells ⟨x.v, stS (markB acc) (x.at_, x.p)⟩)) :
    StSt w w1 w4 L g c1 acc p0 (k + 1) v10 w10 := by
  have hmem := List.mem_of_getElem? hx
  have hst : ∀ y ∈ L, ∀ j, y.v.ownBlock = some j → w.heap.size ≤ j ∧ j < w1.heap.size := fun y hy j hj => (P.args y hy).lt j hj
  have hvo : ∀ j, vo.ownBlock = some j → w4.heap.size + 1 ≤ j ∧ j < wr.heap.size := fun j hj => World.ownsRow.lt h.O j hj
  have hg := World.ownsRow.lt P.row g rfl
  have hsz := h.sz
  have hsw := E1.size
  have nB2 : ∀ j, j < w4.heap.size + 1 → ¬ (j = wr.heap.size ∨ vo.ownBlock = some j) := fun j hj e => by
    rcases e with e | e
    · omega
    · have := (hvo j e).1; omega
  refine ⟨?_, Nat.le_trans hsz (Nat.le_trans T8.size T10.size), ?_, ?_, ?_, ?_, fun i y hy => ?_⟩
  · refine T10.ext (T8.ext h.E (fun b hb => (hst x hmem b hb).1)) (fun b hb => ?_)
    rcases hb with rfl | hb
    · omega
    · have := (hvo b hb).1; omega
  · refine T10.own (T8.own h.R (fun b hb e => ?_)) (fun b hb => nB2 b ?_)
    · injection hb with hb; subst hb
      exact P.off x hmem _ e rfl
    · injection hb with hb; subst hb
      show g < _
      omega
  · refine T10.marks (T8.marks h.M (fun e => ?_)) (nB2 _ (by omega))
    have := (hst x hmem _ e).2; omega
  · rw [stPre_succ hx, List.flatMap_append]
    simpa using hown
  · refine T10.args (T8.args h.A0 (fun b hb e => ?_)) (fun b hb => nB2 b ?_)
    · injection hb with hb
      have := (hst x hmem _ e).2
      simp at hb
      omega
    · injection hb with hb; subst hb
      show w4.heap.size < _
      omega
  · have hy' := List.mem_of_getElem? hy
    have h2 : ∀ b, y.v.ownBlock = some b → ¬ (b = wr.heap.size ∨ vo.ownBlock = some b) := fun b hb => nB2 b (by have := (hst y hy' b hb).2; omega)
    by_cases hik : i = k
    · subst hik
      rw [hx] at hy; injection hy with hy; subst hy
      rw [if_pos (by omega)]
      exact T10.args hA8 h2
    · have hAA := h.AA i y hy
      have hne : ∀ b, y.v.ownBlock = some b → ¬ x.v.ownBlock = some b := fun b hb e => by
        obtain ⟨hik1, e1⟩ := List.getElem?_eq_some_iff.1 hy
        obtain ⟨hik2, e2⟩ := List.getElem?_eq_some_iff.1 hx
        rcases Nat.lt_or_gt_of_ne hik with hlt | hlt
        · have := (List.pairwise_iff_getElem.1 P.pair) i k hik1 hik2 hlt
          rw [e1, e2] at this
          exact this b hb e
        · have := (List.pairwise_iff_getElem.1 P.pair) k i hik2 hik1 hlt
          rw [e1, e2] at this
          exact this b e hb
      have := T10.args (T8.args hAA hne) h2
      by_cases h3 : i < k
      · rw [if_pos h3] at this; rw [if_pos (by omega)]; exact this
      · rw [if_neg h3] at this; rw [if_neg (by omega)]; exact this

theorem own_slice {w : World} {base e size n : Nat} {v : Value} {xs : List Value} (h : w.ownsRow base e size v n xs) : ∃ A c, v = .slice A n c := by
  rcases h.2 with ⟨rfl, hn⟩ | ⟨g, cap, cur, rfl, _⟩
  · exact ⟨none, 0, by rw [hn]⟩
  · exact ⟨_, cap, rfl⟩
end Go.Proofs.YtnklmehphmidhaaGreatDoor
