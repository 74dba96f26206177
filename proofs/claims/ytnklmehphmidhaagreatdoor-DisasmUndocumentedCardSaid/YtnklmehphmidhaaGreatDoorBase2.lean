/- Shared words, further. -/
import Derived.Test.YtnklmehphmidhaaGreatDoorBase
namespace Go.Proofs.YtnklmehphmidhaaGreatDoor
open Go.RowKit

/-- A string's bytes against a list. -/
def isS (s : ByteArray) (l : List UInt8) : Bool := s.data.toList == l
theorem isS_eq (s : ByteArray) (l : List UInt8) : isS s l = (s.toList == l) := by rw [ByteArray.toList_eq]; rfl

/-- A list of strings, opened: its place, and each one's cell. -/
theorem Strs.open {w : World} {v : Value} {l : List ByteArray} (h : Strs w v l) : ∃ A c, v = .slice A l.length c ∧ l.length ≤ c ∧ c ≤ 1000000 ∧ (0 < l.length → ∃ b o, A = some ⟨b, o, none⟩ ∧ b < w.heap.size ∧ ∀ j, j < l.length → w.cell? ⟨b, o + j, none⟩ = some (.string (l.getD j ⟨#[]⟩))) := by
  obtain ⟨A, c, hv, h1, h2, h3⟩ := h
  refine ⟨A, c, hv, h1, h2, fun hp => ?_⟩
  obtain ⟨b, o, hA, hlt, hc⟩ := h3 hp
  exact ⟨b, o, hA, hlt, fun j hj => hc j _ (by simp [List.getElem?_eq_getElem hj])⟩

/-- What the slice from place 1 on reads as. -/
theorem Strs.tail {w : World} {b o c L : Nat} {l : List ByteArray} (h : Strs w (.slice (some ⟨b, o, none⟩) L c) l) (hL : l.length = L) (hp : 0 < L) (_ : ¬ c = 1) : Strs w (.slice (some ⟨b, o + 1, none⟩) (L - 1) (c - 1)) l.tail := by
  obtain ⟨A, c', hv, h1, h2, h3⟩ := h
  injection hv with hA hl hc'
  subst hA; subst hc'
  refine ⟨some ⟨b, o + 1, none⟩, c - 1, by simp [hL], by simp; omega, by omega, fun hq => ?_⟩
  obtain ⟨b', o', hA, hlt, hcell⟩ := h3 (by omega)
  injection hA with hA
  injection hA with hb ho
  subst hb; subst ho
  refine ⟨b, o + 1, rfl, hlt, fun j x hx => ?_⟩
  have := hcell (j + 1) x (by rw [← List.getElem?_tail]; exact hx)
  rwa [show o + 1 + j = o + (j + 1) by omega]
theorem Strs.empty (w : World) (A : Option Addr) (c : Nat) (hc : c ≤ 1000000) : Strs w (.slice A 0 c) [] := ⟨A, c, rfl, Nat.zero_le _, hc, fun h => absurd h (by simp)⟩
theorem tail_one {l : List ByteArray} (h : l.length ≤ 1) : l.tail = [] := by match l, h with | [], _ => rfl | [_], _ => rfl
/-- Behind a call: old cells and old marks read as before. -/
theorem Ext.rules {W w1 : World} (h : Ext W w1) : (∀ b o, b < W.heap.size → w1.cell? ⟨b, o, none⟩ = W.cell? ⟨b, o, none⟩) ∧ (∀ b o, b < W.heap.size → w1.frozen? ⟨b, o, none⟩ = W.frozen? ⟨b, o, none⟩) :=
  ⟨fun b o hb => Below.cell h (p := ⟨b, o, none⟩) hb, fun b o hb => Below.frozen h (p := ⟨b, o, none⟩) hb⟩
theorem lt_add {g n : Nat} (h : g < n) : ∀ k, g < n + k := fun k => by omega
theorem Ext.block {w w' : World} {cs : Array Value} {t : TypeId} (h : Ext (w.alloc (.cells cs t)) w') : (∀ j v, cs[j]? = some v → w'.cell? ⟨w.heap.size, j, none⟩ = some v) ∧ (∀ j, w'.frozen? ⟨w.heap.size, j, none⟩ = false) := by
  obtain ⟨h1, h2⟩ := h.rules
  constructor
  · intro j v hv
    rw [h1 _ _ (by simp), World.cell?_alloc_at _ _ _ _ rfl, hv]
  · intro j
    rw [h2 _ _ (by simp), World.frozen?_alloc_at _ _ _ _ rfl]
theorem bor0 (x : Int) (h0 : 0 ≤ x) (h1 : x ≤ 255) : bits .or .u16 0 x = x := by
  rw [u16_or 0 x (by omega) (by omega) h0 (by omega)]
  simp; omega
theorem bor8 (x y : Int) (h0 : 0 ≤ x) (h1 : x ≤ 255) (h2 : 0 ≤ y) (h3 : y ≤ 255) : bits .or .u16 (x * 256) y = x * 256 + y := by
  rw [u16_or _ _ (by omega) (by omega) h2 (by omega), nat_join 8 _ _ (by omega) (by omega)]
  omega
/-- A store into a cell, and a draw: what the cells hold. -/
theorem cell_set {w : World} {a : Addr} {u v : Value} (h : w.cell? a = some u) : (w.setCell a v).drew.cell? a = some v := World.cell?_setCell_same w a v h
theorem cell_set_ne {w : World} {a b : Addr} {u v : Value} (h : w.cell? b = some u) (hne : a ≠ b) : (w.setCell a v).drew.cell? b = some u := (World.cell?_setCell_other w a b v hne).trans h
theorem frozen_set {w : World} {a b : Addr} {v : Value} {t : Bool} (h : w.frozen? b = t) : (w.setCell a v).drew.frozen? b = t := by
  rw [← h]; exact World.frozen?_setCell w a b v
end Go.Proofs.YtnklmehphmidhaaGreatDoor
