/- Shared words: what a slice of strings reads as; a world that has only grown; blocks of cells. -/
import Derived.Test.YtnklmehphmidhaaGreatDoorProg
import Derived.WalkKit
import Derived.WalkSpells
import Derived.Lib.Hide
import Derived.Deep.QuietTactic
import Derived.BigQuiet
import Derived.Laws.BitsAllLaws
import Derived.Laws.BytesArg
namespace Go.Proofs.YtnklmehphmidhaaGreatDoor
section
set_option linter.unusedVariables false
set_option linter.unusedSimpArgs false
open Go.RowKit

/-- What was there is as it was; there may be new blocks. -/
def Ext (w w' : World) : Prop := Below w.heap.size w w'
theorem Ext.refl (w : World) : Ext w w := Below.refl _ _
theorem Ext.trans {a b c : World} (h : Ext a b) (k : Ext b c) : Ext a c := Below.trans h (Below.mono k h.size)
theorem Ext.alloc {a b : World} (h : Ext a b) (o : Obj) : Ext a (b.alloc o) := Below.alloc h h.size o
theorem Ext.drew {a b : World} (h : Ext a b) : Ext a b.drew := Below.drew h
theorem Ext.drewN {a b : World} (h : Ext a b) (n : Nat) : Ext a (b.drewN n) := ⟨h.os, h.tape, h.output, h.size, h.block⟩
theorem Ext.setCell {a b : World} (h : Ext a b) {p : Addr} (hp : a.heap.size ≤ p.block) (u : Value) : Ext a (b.setCell p u) := Below.setCell h hp u
theorem Ext.cell {w w' : World} (h : Ext w w') {p : Addr} {v : Value} (hc : w.cell? p = some v) : w'.cell? p = some v :=
  (Below.cell h (World.block_lt_of_cell? w p hc)).trans hc
theorem Ext.size {w w' : World} (h : Ext w w') : w.heap.size ≤ w'.heap.size := Below.size h

/-- v reads as the list l of strings. -/
def Strs (w : World) (v : Value) (l : List ByteArray) : Prop :=
  ∃ A c, v = .slice A l.length c ∧ l.length ≤ c ∧ c ≤ 1000000 ∧ (0 < l.length → ∃ b o, A = some ⟨b, o, none⟩ ∧ b < w.heap.size ∧ ∀ j x, l[j]? = some x → w.cell? ⟨b, o + j, none⟩ = some (.string x))

theorem Strs.ext {w w' : World} {v : Value} {l : List ByteArray} (h : Strs w v l) (hb : Ext w w') : Strs w' v l := by
  obtain ⟨A, c, hv, h1, h2, h3⟩ := h
  refine ⟨A, c, hv, h1, h2, fun hp => ?_⟩
  obtain ⟨b, o, hA, hlt, hc⟩ := h3 hp
  exact ⟨b, o, hA, Nat.lt_of_lt_of_le hlt hb.size, fun j x hx => hb.cell (hc j x hx)⟩

theorem Strs.nil (w : World) : Strs w (.slice none 0 0) [] := ⟨none, 0, rfl, Nat.le_refl _, by decide, fun h => absurd h (by simp)⟩

theorem Strs.alloc (w : World) (l : List ByteArray) (hl : l.length ≤ 1000000) (t : TypeId) (cs : Array Value) (hcs : cs = (l.map Value.string).toArray) (n : Nat) (hn : n = l.length) :
    Strs (w.alloc (.cells cs t)) (.slice (some ⟨w.heap.size, 0, none⟩) n n) l := by
  subst hcs; subst hn
  refine ⟨_, _, rfl, Nat.le_refl _, hl, fun _ => ⟨_, _, rfl, by simp, fun j x hx => ?_⟩⟩
  rw [World.cell?_alloc_at _ _ _ _ rfl]
  simp [hx]

theorem Strs.mk1 (w : World) (a : ByteArray) : Strs (w.alloc (.cells #[.string a] 9)) (.slice (some ⟨w.heap.size, 0, none⟩) 1 1) [a] := Strs.alloc w [a] (by simp) 9 _ rfl 1 rfl
theorem Strs.mk2 (w : World) (a b : ByteArray) : Strs (w.alloc (.cells #[.string a, .string b] 9)) (.slice (some ⟨w.heap.size, 0, none⟩) 2 2) [a, b] := Strs.alloc w [a, b] (by simp) 9 _ rfl 2 rfl
theorem Strs.mk3 (w : World) (a b c : ByteArray) : Strs (w.alloc (.cells #[.string a, .string b, .string c] 9)) (.slice (some ⟨w.heap.size, 0, none⟩) 3 3) [a, b, c] := Strs.alloc w [a, b, c] (by simp) 9 _ rfl 3 rfl
theorem Strs.mk4 (w : World) (a b c d : ByteArray) : Strs (w.alloc (.cells #[.string a, .string b, .string c, .string d] 9)) (.slice (some ⟨w.heap.size, 0, none⟩) 4 4) [a, b, c, d] := Strs.alloc w [a, b, c, d] (by simp) 9 _ rfl 4 rfl
theorem Strs.mk8 (w : World) (a b c d e f g h : ByteArray) : Strs (w.alloc (.cells #[.string a, .string b, .string c, .string d, .string e, .string f, .string g, .string h] 9)) (.slice (some ⟨w.heap.size, 0, none⟩) 8 8) [a, b, c, d, e, f, g, h] := Strs.alloc w [a, b, c, d, e, f, g, h] (by simp) 9 _ rfl 8 rfl

/-- It answers a string, a list of strings, a bool, a number; the world has only grown. -/
def RStr (w : World) (s : ByteArray) : Ending → World → Prop := fun e w' => e = .returned (.string s) ∧ Ext w w'
def RStrs (w : World) (l : List ByteArray) : Ending → World → Prop := fun e w' => ∃ v, e = .returned v ∧ Strs w' v l ∧ Ext w w'
def RBool (w : World) (b : Bool) : Ending → World → Prop := fun e w' => e = .returned (.bool b) ∧ Ext w w'
def RInt (w : World) (k : IntKind) (n : Int) : Ending → World → Prop := fun e w' => e = .returned (.int k n) ∧ Ext w w'

theorem RStrs.mk {w w' : World} {v : Value} {l l' : List ByteArray} (hs : Strs w' v l') (hl : l = l') (he : Ext w w') : RStrs w l (.returned v) w' := ⟨v, rfl, hl ▸ hs, he⟩

theorem RStrs.m0 {w W : World} {l : List ByteArray} (hx : Ext w W) (hl : l = []) : RStrs w l (.returned (.slice none 0 0)) W := ⟨_, rfl, hl ▸ Strs.nil W, hx⟩
theorem RStrs.m1 {w W : World} {l : List ByteArray} {g : Nat} {a : ByteArray} (hg : g = W.heap.size) (hx : Ext w W) (hl : l = [a]) : RStrs w l (.returned (.slice (some ⟨g, 0, none⟩) 1 1)) (W.alloc (.cells #[.string a] 9)) := by
  subst hg; exact ⟨_, rfl, hl ▸ Strs.mk1 .., hx.alloc _⟩
theorem RStrs.m2 {w W : World} {l : List ByteArray} {g : Nat} {a b : ByteArray} (hg : g = W.heap.size) (hx : Ext w W) (hl : l = [a, b]) : RStrs w l (.returned (.slice (some ⟨g, 0, none⟩) 2 2)) (W.alloc (.cells #[.string a, .string b] 9)) := by
  subst hg; exact ⟨_, rfl, hl ▸ Strs.mk2 .., hx.alloc _⟩
theorem RStrs.m3 {w W : World} {l : List ByteArray} {g : Nat} {a b c : ByteArray} (hg : g = W.heap.size) (hx : Ext w W) (hl : l = [a, b, c]) : RStrs w l (.returned (.slice (some ⟨g, 0, none⟩) 3 3)) (W.alloc (.cells #[.string a, .string b, .string c] 9)) := by
  subst hg; exact ⟨_, rfl, hl ▸ Strs.mk3 .., hx.alloc _⟩

theorem band (x : Int) (m : Nat) (k : Nat) (hm : m = 2 ^ k - 1) (hk : m < 256) (h0 : 0 ≤ x) (h1 : x < 256) : bits .and .u8 x (m : Int) = x % (2 ^ k : Nat) := by
  rw [u8_and x m h0 h1 (by omega) (by omega)]
  subst hm
  have : (((2 ^ k - 1 : Nat) : Int)).toNat = 2 ^ k - 1 := by simp
  rw [this, Nat.and_two_pow_sub_one_eq_mod]
  obtain ⟨n, rfl⟩ := Int.eq_ofNat_of_zero_le h0
  simp
theorem band3 (x : Int) (h0 : 0 ≤ x) (h1 : x < 256) : bits .and .u8 x 3 = x % 4 := band x 3 2 rfl (by decide) h0 h1
theorem band1 (x : Int) (h0 : 0 ≤ x) (h1 : x < 256) : bits .and .u8 x 1 = x % 2 := band x 1 1 rfl (by decide) h0 h1
theorem band7 (x : Int) (h0 : 0 ≤ x) (h1 : x < 256) : bits .and .u8 x 7 = x % 8 := band x 7 3 rfl (by decide) h0 h1
/-- 'string([]byte{x})' of a new row of one byte. -/
theorem conv1 (w : World) (g : Nat) (hg : g = w.heap.size) (x : Int) : (convert 22 9 (.slice (some ⟨g, 0, none⟩) 1 1)).run Tryz.prog (w.alloc (.cells #[.int .u8 x] 5)) = .ok (.string (strOfNums [x])) (w.alloc (.cells #[.int .u8 x] 5)) := by
  subst hg
  refine run_convert_bytes_arg (P := Tryz.prog) _ 22 5 Tryz.underlying22 Tryz.underlying5 _ 0 1 1 [x] rfl (fun i hi => ?_) 9 Tryz.underlying9
  obtain rfl : i = 0 := by omega
  rw [World.cell?_alloc_at _ _ _ _ rfl]; rfl
end

section
set_option linter.unusedVariables false
set_option linter.unusedSimpArgs false
open Go.RowKit

/-- A string's bytes against a list. -/
def isS (s : ByteArray) (l : List UInt8) : Bool := s.data.toList == l
theorem isS_eq (s : ByteArray) (l : List UInt8) : isS s l = (s.toList == l) := by rw [ByteArray.toList_eq]; rfl

/-- A list of strings, opened: its place, and each one's cell. -/
theorem Strs.open {w : World} {v : Value} {l : List ByteArray} (h : Strs w v l) : ∃ A c, v = .slice A l.length c ∧ l.length ≤ c ∧ c ≤ 1000000 ∧ (0 < l.length → ∃ b o, A = some ⟨b, o, none⟩ ∧ b < w.heap.size ∧ ∀ j, j < l.length → w.cell? ⟨b, o + j, none⟩ = some (.string (l.getD j ⟨#[]⟩))) := by
  obtain ⟨A, c, hv, h1, h2, h3⟩ := h
  refine ⟨A, c, hv, h1, h2, fun hp => ?_⟩
  obtain ⟨b, o, hA, hlt, hc⟩ := h3 hp
  exact ⟨b, o, hA, hlt, fun j hj => hc j _ (by simp [List.getElem?_eq_getElem hj])⟩

/-- What the slice from place 1 on reads as. -/
theorem Strs.tail {w : World} {b o c L : Nat} {l : List ByteArray} (h : Strs w (.slice (some ⟨b, o, none⟩) L c) l) (hL : l.length = L) (hp : 0 < L) (_ : ¬ c = 1) : Strs w (.slice (some ⟨b, o + 1, none⟩) (L - 1) (c - 1)) l.tail := by
  obtain ⟨A, c', hv, h1, h2, h3⟩ := h
  injection hv with hA hl hc'
  subst hA; subst hc'
  refine ⟨some ⟨b, o + 1, none⟩, c - 1, by simp [hL], by simp; omega, by omega, fun hq => ?_⟩
  obtain ⟨b', o', hA, hlt, hcell⟩ := h3 (by omega)
  injection hA with hA
  injection hA with hb ho
  subst hb; subst ho
  refine ⟨b, o + 1, rfl, hlt, fun j x hx => ?_⟩
  have := hcell (j + 1) x (by rw [← List.getElem?_tail]; exact hx)
  rwa [show o + 1 + j = o + (j + 1) by omega]
theorem Strs.empty (w : World) (A : Option Addr) (c : Nat) (hc : c ≤ 1000000) : Strs w (.slice A 0 c) [] := ⟨A, c, rfl, Nat.zero_le _, hc, fun h => absurd h (by simp)⟩
theorem tail_one {l : List ByteArray} (h : l.length ≤ 1) : l.tail = [] := by match l, h with | [], _ => rfl | [_], _ => rfl
/-- Behind a call: old cells and old marks read as before. -/
theorem Ext.rules {W w1 : World} (h : Ext W w1) : (∀ b o, b < W.heap.size → w1.cell? ⟨b, o, none⟩ = W.cell? ⟨b, o, none⟩) ∧ (∀ b o, b < W.heap.size → w1.frozen? ⟨b, o, none⟩ = W.frozen? ⟨b, o, none⟩) :=
  ⟨fun b o hb => Below.cell h (p := ⟨b, o, none⟩) hb, fun b o hb => Below.frozen h (p := ⟨b, o, none⟩) hb⟩
theorem lt_add {g n : Nat} (h : g < n) : ∀ k, g < n + k := fun k => by omega
theorem Ext.block {w w' : World} {cs : Array Value} {t : TypeId} (h : Ext (w.alloc (.cells cs t)) w') : (∀ j v, cs[j]? = some v → w'.cell? ⟨w.heap.size, j, none⟩ = some v) ∧ (∀ j, w'.frozen? ⟨w.heap.size, j, none⟩ = false) := by
  obtain ⟨h1, h2⟩ := h.rules
  constructor
  · intro j v hv
    rw [h1 _ _ (by simp), World.cell?_alloc_at _ _ _ _ rfl, hv]
  · intro j
    rw [h2 _ _ (by simp), World.frozen?_alloc_at _ _ _ _ rfl]
theorem bor0 (x : Int) (h0 : 0 ≤ x) (h1 : x ≤ 255) : bits .or .u16 0 x = x := by
  rw [u16_or 0 x (by omega) (by omega) h0 (by omega)]
  simp; omega
theorem bor8 (x y : Int) (h0 : 0 ≤ x) (h1 : x ≤ 255) (h2 : 0 ≤ y) (h3 : y ≤ 255) : bits .or .u16 (x * 256) y = x * 256 + y := by
  rw [u16_or _ _ (by omega) (by omega) h2 (by omega), nat_join 8 _ _ (by omega) (by omega)]
  omega
/-- A store into a cell, and a draw: what the cells hold. -/
theorem cell_set {w : World} {a : Addr} {u v : Value} (h : w.cell? a = some u) : (w.setCell a v).drew.cell? a = some v := World.cell?_setCell_same w a v h
theorem cell_set_ne {w : World} {a b : Addr} {u v : Value} (h : w.cell? b = some u) (hne : a ≠ b) : (w.setCell a v).drew.cell? b = some u := (World.cell?_setCell_other w a b v hne).trans h
theorem frozen_set {w : World} {a b : Addr} {v : Value} {t : Bool} (h : w.frozen? b = t) : (w.setCell a v).drew.frozen? b = t := by
  rw [← h]; exact World.frozen?_setCell w a b v
end

section
set_option linter.unusedVariables false
set_option linter.unusedSimpArgs false
open Go.RowKit
set_option maxRecDepth 100000
set_option maxHeartbeats 4000000

/-- Block g is the row cs, not frozen. -/
def Blk (w : World) (g : Nat) (cs : Array Value) : Prop := ∃ t, w.heap[g]? = some (.cells cs t (0, 0))
theorem Blk.lt {w : World} {g : Nat} {cs : Array Value} (h : Blk w g cs) : g < w.heap.size := by
  obtain ⟨t, h⟩ := h
  exact (Array.getElem?_eq_some_iff.1 h).1
theorem Blk.cell {w : World} {g : Nat} {cs : Array Value} (h : Blk w g cs) (j : Nat) : w.cell? ⟨g, j, none⟩ = cs[j]? := by
  obtain ⟨t, h⟩ := h
  simp [World.cell?, h]
theorem Blk.frozen {w : World} {g : Nat} {cs : Array Value} (h : Blk w g cs) (j : Nat) : w.frozen? ⟨g, j, none⟩ = false := by
  obtain ⟨t, h⟩ := h
  simp [World.frozen?, h]
theorem Blk.new (w : World) (cs : Array Value) (t : TypeId) : Blk (w.alloc (.cells cs t)) w.heap.size cs := ⟨t, by simp [World.alloc, -World.alloc_eq]⟩
theorem Blk.ext {w w' : World} {g : Nat} {cs : Array Value} (h : Blk w g cs) (hx : Ext w w') : Blk w' g cs := by
  obtain ⟨t, h'⟩ := h
  exact ⟨t, by rw [Below.block hx g (Array.getElem?_eq_some_iff.1 h').1]; exact h'⟩
theorem Blk.alloc {w : World} {g : Nat} {cs : Array Value} (h : Blk w g cs) (o : Obj) : Blk (w.alloc o) g cs := h.ext ((Ext.refl _).alloc _)
theorem Blk.drew {w : World} {g : Nat} {cs : Array Value} (h : Blk w g cs) : Blk w.drew g cs := h
theorem Blk.drewN {w : World} {g : Nat} {cs : Array Value} (h : Blk w g cs) (n : Nat) : Blk (w.drewN n) g cs := h.ext ((Ext.refl _).drewN n)
theorem Blk.put {w : World} {g : Nat} {cs : Array Value} (h : Blk w g cs) (j : Nat) (v : Value) : Blk (w.setCell ⟨g, j, none⟩ v) g (cs.setIfInBounds j v) := by
  obtain ⟨t, h'⟩ := h
  refine ⟨t, ?_⟩
  simp [World.setCell, Array.getElem?_modify, h']
theorem Blk.other {w : World} {g : Nat} {cs : Array Value} (h : Blk w g cs) {a : Addr} (hne : g ≠ a.block) (v : Value) : Blk (w.setCell a v) g cs := by
  obtain ⟨t, h'⟩ := h
  exact ⟨t, by rw [Below.heap_setCell _ _ _ _ hne]; exact h'⟩

theorem res1 {fn : Func} {p T : Nat} (h : fn.results = #[.cell p T]) (tmps : Array Value) (P : Program) (w : World) (g : Nat) (v : Value) (ha : tmps.getD p undef = .pointer (some ⟨g, 0, none⟩))
    (hl : (loadVar T ⟨g, 0, none⟩).run P w = .ok v w) : (results fn tmps).run P w = .ok v w := by
  have hp : (asAddr (tmps.getD p undef)).run P w = .ok ⟨g, 0, none⟩ w := by rw [ha]; rfl
  simp only [results, h]
  simp [Sem.run_bind, Result.andThen, -Array.getD_eq_getD_getElem?, hp, hl]
theorem res2 {fn : Func} {p T u1 : Nat} (h : fn.results = #[.cell p T, .tmp u1]) (tmps : Array Value) (P : Program) (w : World) (g : Nat) (v : Value) (ha : tmps.getD p undef = .pointer (some ⟨g, 0, none⟩))
    (hl : (loadVar T ⟨g, 0, none⟩).run P w = .ok v w) : (results fn tmps).run P w = .ok (.tuple #[v, tmps.getD u1 undef]) w := by
  have hp : (asAddr (tmps.getD p undef)).run P w = .ok ⟨g, 0, none⟩ w := by rw [ha]; rfl
  simp only [results, h]
  simp [Sem.run_bind, Result.andThen, -Array.getD_eq_getD_getElem?, hp, hl]
theorem res3 {fn : Func} {p T u1 u2 : Nat} (h : fn.results = #[.cell p T, .tmp u1, .tmp u2]) (tmps : Array Value) (P : Program) (w : World) (g : Nat) (v : Value) (ha : tmps.getD p undef = .pointer (some ⟨g, 0, none⟩))
    (hl : (loadVar T ⟨g, 0, none⟩).run P w = .ok v w) : (results fn tmps).run P w = .ok (.tuple #[v, tmps.getD u1 undef, tmps.getD u2 undef]) w := by
  have hp : (asAddr (tmps.getD p undef)).run P w = .ok ⟨g, 0, none⟩ w := by rw [ha]; rfl
  simp only [results, h]
  simp [Sem.run_bind, Result.andThen, -Array.getD_eq_getD_getElem?, hp, hl]

theorem load41 {w : World} {g : Nat} {c0 c1 c2 c3 c4 c5 c6 c7 : Value} (h : Blk w g #[c0, c1, c2, c3, c4, c5, c6, c7]) : (loadVar 41 ⟨g, 0, none⟩).run Tryz.prog w = .ok (.agg #[c0, c1, c2, c3, c4, c5, c6, c7]) w := by
  have hc := h.cell
  simp [go_sem, hc]
theorem load31 {w : World} {g : Nat} {c0 c1 c2 c3 : Value} (h : Blk w g #[c0, c1, c2, c3]) : (loadVar 31 ⟨g, 0, none⟩).run Tryz.prog w = .ok (.agg #[c0, c1, c2, c3]) w := by
  have hc := h.cell
  simp [go_sem, hc]
theorem load39 {w : World} {g : Nat} {c0 c1 c2 c3 : Value} (h : Blk w g #[c0, c1, c2, c3]) : (loadVar 39 ⟨g, 0, none⟩).run Tryz.prog w = .ok (.agg #[c0, c1, c2, c3]) w := by
  have hc := h.cell
  simp [go_sem, hc]
end
end Go.Proofs.YtnklmehphmidhaaGreatDoor
