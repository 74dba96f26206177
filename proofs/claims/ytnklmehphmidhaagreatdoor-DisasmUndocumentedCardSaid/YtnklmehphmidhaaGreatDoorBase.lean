/- Shared words of this seat's proofs: what a slice of strings reads as, a world that has only grown, and the like. No condition. -/
import Derived.Test.YtnklmehphmidhaaGreatDoorProg
import Derived.WalkKit
import Derived.WalkSpells
import Derived.Lib.Hide
import Derived.Deep.QuietTactic
import Derived.BigQuiet
import Derived.Laws.BitsAllLaws
import Derived.Laws.BytesArg
namespace Go.Proofs.YtnklmehphmidhaaGreatDoor
open Go.RowKit

/-- What was there is as it was; there may be new blocks. -/
def Ext (w w' : World) : Prop := Below w.heap.size w w'
theorem Ext.refl (w : World) : Ext w w := Below.refl _ _
theorem Ext.trans {a b c : World} (h : Ext a b) (k : Ext b c) : Ext a c := Below.trans h (Below.mono k h.size)
theorem Ext.alloc {a b : World} (h : Ext a b) (o : Obj) : Ext a (b.alloc o) := Below.alloc h h.size o
theorem Ext.drew {a b : World} (h : Ext a b) : Ext a b.drew := Below.drew h
theorem Ext.drewN {a b : World} (h : Ext a b) (n : Nat) : Ext a (b.drewN n) := ⟨h.os, h.tape, h.output, h.size, h.block⟩
theorem Ext.setCell {a b : World} (h : Ext a b) {p : Addr} (hp : a.heap.size ≤ p.block) (u : Value) : Ext a (b.setCell p u) := Below.setCell h hp u
theorem Ext.cell {w w' : World} (h : Ext w w') {p : Addr} {v : Value} (hc : w.cell? p = some v) : w'.cell? p = some v :=
  (Below.cell h (World.block_lt_of_cell? w p hc)).trans hc
theorem Ext.size {w w' : World} (h : Ext w w') : w.heap.size ≤ w'.heap.size := Below.size h

/-- v reads as the list l of strings. -/
def Strs (w : World) (v : Value) (l : List ByteArray) : Prop :=
  ∃ A c, v = .slice A l.length c ∧ l.length ≤ c ∧ c ≤ 1000000 ∧ (0 < l.length → ∃ b o, A = some ⟨b, o, none⟩ ∧ b < w.heap.size ∧ ∀ j x, l[j]? = some x → w.cell? ⟨b, o + j, none⟩ = some (.string x))

theorem Strs.ext {w w' : World} {v : Value} {l : List ByteArray} (h : Strs w v l) (hb : Ext w w') : Strs w' v l := by
  obtain ⟨A, c, hv, h1, h2, h3⟩ := h
  refine ⟨A, c, hv, h1, h2, fun hp => ?_⟩
  obtain ⟨b, o, hA, hlt, hc⟩ := h3 hp
  exact ⟨b, o, hA, Nat.lt_of_lt_of_le hlt hb.size, fun j x hx => hb.cell (hc j x hx)⟩

theorem Strs.nil (w : World) : Strs w (.slice none 0 0) [] := ⟨none, 0, rfl, Nat.le_refl _, by decide, fun h => absurd h (by simp)⟩

theorem Strs.alloc (w : World) (l : List ByteArray) (hl : l.length ≤ 1000000) (t : TypeId) (cs : Array Value) (hcs : cs = (l.map Value.string).toArray) (n : Nat) (hn : n = l.length) :
    Strs (w.alloc (.cells cs t)) (.slice (some ⟨w.heap.size, 0, none⟩) n n) l := by
  subst hcs; subst hn
  refine ⟨_, _, rfl, Nat.le_refl _, hl, fun _ => ⟨_, _, rfl, by simp, fun j x hx => ?_⟩⟩
  rw [World.cell?_alloc_at _ _ _ _ rfl]
  simp [hx]

theorem Strs.mk1 (w : World) (a : ByteArray) : Strs (w.alloc (.cells #[.string a] 9)) (.slice (some ⟨w.heap.size, 0, none⟩) 1 1) [a] := Strs.alloc w [a] (by simp) 9 _ rfl 1 rfl
theorem Strs.mk2 (w : World) (a b : ByteArray) : Strs (w.alloc (.cells #[.string a, .string b] 9)) (.slice (some ⟨w.heap.size, 0, none⟩) 2 2) [a, b] := Strs.alloc w [a, b] (by simp) 9 _ rfl 2 rfl
theorem Strs.mk3 (w : World) (a b c : ByteArray) : Strs (w.alloc (.cells #[.string a, .string b, .string c] 9)) (.slice (some ⟨w.heap.size, 0, none⟩) 3 3) [a, b, c] := Strs.alloc w [a, b, c] (by simp) 9 _ rfl 3 rfl
theorem Strs.mk4 (w : World) (a b c d : ByteArray) : Strs (w.alloc (.cells #[.string a, .string b, .string c, .string d] 9)) (.slice (some ⟨w.heap.size, 0, none⟩) 4 4) [a, b, c, d] := Strs.alloc w [a, b, c, d] (by simp) 9 _ rfl 4 rfl
theorem Strs.mk8 (w : World) (a b c d e f g h : ByteArray) : Strs (w.alloc (.cells #[.string a, .string b, .string c, .string d, .string e, .string f, .string g, .string h] 9)) (.slice (some ⟨w.heap.size, 0, none⟩) 8 8) [a, b, c, d, e, f, g, h] := Strs.alloc w [a, b, c, d, e, f, g, h] (by simp) 9 _ rfl 8 rfl

/-- It answers a string, a list of strings, a bool, a number; the world has only grown. -/
def RStr (w : World) (s : ByteArray) : Ending → World → Prop := fun e w' => e = .returned (.string s) ∧ Ext w w'
def RStrs (w : World) (l : List ByteArray) : Ending → World → Prop := fun e w' => ∃ v, e = .returned v ∧ Strs w' v l ∧ Ext w w'
def RBool (w : World) (b : Bool) : Ending → World → Prop := fun e w' => e = .returned (.bool b) ∧ Ext w w'
def RInt (w : World) (k : IntKind) (n : Int) : Ending → World → Prop := fun e w' => e = .returned (.int k n) ∧ Ext w w'

theorem RStrs.mk {w w' : World} {v : Value} {l l' : List ByteArray} (hs : Strs w' v l') (hl : l = l') (he : Ext w w') : RStrs w l (.returned v) w' := ⟨v, rfl, hl ▸ hs, he⟩

theorem RStrs.m0 {w W : World} {l : List ByteArray} (hx : Ext w W) (hl : l = []) : RStrs w l (.returned (.slice none 0 0)) W := ⟨_, rfl, hl ▸ Strs.nil W, hx⟩
theorem RStrs.m1 {w W : World} {l : List ByteArray} {g : Nat} {a : ByteArray} (hg : g = W.heap.size) (hx : Ext w W) (hl : l = [a]) : RStrs w l (.returned (.slice (some ⟨g, 0, none⟩) 1 1)) (W.alloc (.cells #[.string a] 9)) := by
  subst hg; exact ⟨_, rfl, hl ▸ Strs.mk1 .., hx.alloc _⟩
theorem RStrs.m2 {w W : World} {l : List ByteArray} {g : Nat} {a b : ByteArray} (hg : g = W.heap.size) (hx : Ext w W) (hl : l = [a, b]) : RStrs w l (.returned (.slice (some ⟨g, 0, none⟩) 2 2)) (W.alloc (.cells #[.string a, .string b] 9)) := by
  subst hg; exact ⟨_, rfl, hl ▸ Strs.mk2 .., hx.alloc _⟩
theorem RStrs.m3 {w W : World} {l : List ByteArray} {g : Nat} {a b c : ByteArray} (hg : g = W.heap.size) (hx : Ext w W) (hl : l = [a, b, c]) : RStrs w l (.returned (.slice (some ⟨g, 0, none⟩) 3 3)) (W.alloc (.cells #[.string a, .string b, .string c] 9)) := by
  subst hg; exact ⟨_, rfl, hl ▸ Strs.mk3 .., hx.alloc _⟩

theorem band (x : Int) (m : Nat) (k : Nat) (hm : m = 2 ^ k - 1) (hk : m < 256) (h0 : 0 ≤ x) (h1 : x < 256) : bits .and .u8 x (m : Int) = x % (2 ^ k : Nat) := by
  rw [u8_and x m h0 h1 (by omega) (by omega)]
  subst hm
  have : (((2 ^ k - 1 : Nat) : Int)).toNat = 2 ^ k - 1 := by simp
  rw [this, Nat.and_two_pow_sub_one_eq_mod]
  obtain ⟨n, rfl⟩ := Int.eq_ofNat_of_zero_le h0
  simp
theorem band3 (x : Int) (h0 : 0 ≤ x) (h1 : x < 256) : bits .and .u8 x 3 = x % 4 := band x 3 2 rfl (by decide) h0 h1
theorem band1 (x : Int) (h0 : 0 ≤ x) (h1 : x < 256) : bits .and .u8 x 1 = x % 2 := band x 1 1 rfl (by decide) h0 h1
theorem band7 (x : Int) (h0 : 0 ≤ x) (h1 : x < 256) : bits .and .u8 x 7 = x % 8 := band x 7 3 rfl (by decide) h0 h1
/-- 'string([]byte{x})' of a new row of one byte. -/
theorem conv1 (w : World) (g : Nat) (hg : g = w.heap.size) (x : Int) : (convert 22 9 (.slice (some ⟨g, 0, none⟩) 1 1)).run Tryz.prog (w.alloc (.cells #[.int .u8 x] 5)) = .ok (.string (strOfNums [x])) (w.alloc (.cells #[.int .u8 x] 5)) := by
  subst hg
  refine run_convert_bytes_arg (P := Tryz.prog) _ 22 5 Tryz.underlying22 Tryz.underlying5 _ 0 1 1 [x] rfl (fun i hi => ?_) 9 Tryz.underlying9
  obtain rfl : i = 0 := by omega
  rw [World.cell?_alloc_at _ _ _ _ rfl]; rfl
end Go.Proofs.YtnklmehphmidhaaGreatDoor
