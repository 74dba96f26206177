/- disasm: DB, and the first instruction of the 8080's. -/
import Derived.Test.YtnklmehphmidhaaGreatDoorDis
import Derived.Test.YtnklmehphmidhaaGreatDoorZid
import Derived.Deep.RegionHeld3
import Derived.Deep.AppendLies
namespace Go.Proofs.YtnklmehphmidhaaGreatDoor
open Go.RowKit
set_option maxRecDepth 100000
set_option maxHeartbeats 4000000
set_option linter.unusedSimpArgs false

/-- v owns, from block base on, the operands l. -/
def Args (w : World) (base : Nat) (v : Value) (l : List AR) : Prop := w.ownsRow base 41 8 v l.length (l.flatMap AR.cells)
theorem Args.ext {w w' : World} {base : Nat} {v : Value} {l : List AR} (h : Args w base v l) (hx : Ext w w') : Args w' base v l := by
  refine World.ownsRow.kept h (row := none) ⟨hx.os, hx.tape, hx.output, hx.size, fun i hi _ => Below.block hx i hi⟩ ?_
  cases v.ownBlock <;> simp
theorem Args.mono {w : World} {base base' : Nat} {v : Value} {l : List AR} (h : Args w base v l) (hb : base' ≤ base) : Args w base' v l := by
  obtain ⟨h1, h2⟩ := h
  refine ⟨h1, ?_⟩
  rcases h2 with h2 | ⟨g, cap, cur, hv, hg, r⟩
  · exact .inl h2
  · exact .inr ⟨g, cap, cur, hv, Nat.le_trans hb hg, r⟩
theorem Args.nil (w : World) (base : Nat) : Args w base (.slice none 0 0) [] := World.ownsRow_nil _ _ _ _
theorem Args.one (w : World) (base g : Nat) (hg : g = w.heap.size) (hb : base ≤ w.heap.size) (a : AR) (cs : Array Value) (hcs : cs.toList = a.cells) : Args (w.alloc (.cells cs 41)) base (.slice (some ⟨g, 0, none⟩) 1 1) [a] := by
  subst hg
  refine ⟨by simp [AR.cells], .inr ⟨_, 1, cs, rfl, hb, by simp [World.alloc, -World.alloc_eq], Nat.le_refl _, by simp [maxLen], ?_, ?_⟩⟩
  · rw [← Array.length_toList, hcs]; rfl
  · simp [hcs, AR.cells]
theorem Args.slice {w : World} {base : Nat} {v : Value} {l : List AR} (h : Args w base v l) : ∃ A c, v = .slice A l.length c := by
  rcases h.2 with ⟨rfl, hn⟩ | ⟨g, cap, cur, rfl, _⟩
  · exact ⟨none, 0, by rw [hn]⟩
  · exact ⟨_, cap, rfl⟩

theorem Args.setCell {w : World} {base : Nat} {v : Value} {l : List AR} (h : Args w base v l) (a : Addr) (u : Value) (hne : v.ownBlock ≠ some a.block) : Args (w.setCell a u) base v l := by
  refine World.ownsRow.kept h (row := some a.block) ⟨rfl, rfl, rfl, by simp, fun i _ hi => Below.heap_setCell _ _ _ _ (by intro e; exact hi (by rw [e]))⟩ (.inr hne)
theorem Args.drew {w : World} {base : Nat} {v : Value} {l : List AR} (h : Args w base v l) : Args w.drew base v l := h

def dbS (x : Int) : List AR := [numA false x]
theorem db_any (x : Int) (h0 : 0 ≤ x) (h1 : x ≤ 255) (w : World) : Calls Tryz.prog 71 #[.int .u8 x] w fun e w' => ∃ A c, e = .returned (.tuple #[.agg #[.string ⟨#[]⟩, .bool false, .string ⟨#[68, 66]⟩, .slice A 1 c], .int .i64 1, .int .i64 (-1)]) ∧ Args w' w.heap.size (.slice A 1 c) (dbS x) ∧ Ext w w' := by
  go_enter Tryz.func71, Tryz.ntmps71
  go_wp2_with (first
    | (go_at_call 18; refine (operand_any _ _ _).mono ?_; rw [show operandS ⟨#[110]⟩ x = numA false x from rfl]; rintro e w1 ⟨rfl, hx⟩; have hB := (Blk.new _ _ _).ext hx)
    | (go_at_call 17; refine (stmt_any _ _ _ _ _).mono ?_; rintro e w2 ⟨rfl, hx2⟩; have hB2 := (hB.alloc _).ext hx2; have k := hB2.cell; have f := hB2.frozen))
  have hlt := hB.lt
  refine ⟨rfl, _, res3 rfl _ _ _ w.heap.size _ rfl (by simp (maxDischargeDepth := 20) [go_sem, k]), some ⟨w1.heap.size, 0, none⟩, 1, rfl, ?_, ?_⟩
  · have h := (Args.one w1 w.heap.size _ rfl (by omega) (numA false x) #[.string (numA false x).word, .string ⟨#[]⟩, .bool false, .bool (numA false x).mem, .string (numA false x).op, .int .u16 (numA false x).n, .string (numA false x).name, .slice none 0 0] rfl).ext hx2
    have hne : ∀ j : Nat, (Value.slice (some ⟨w1.heap.size, 0, none⟩) 1 1).ownBlock ≠ some (⟨w.heap.size, j, none⟩ : Addr).block := by intro j; simp [Value.ownBlock]; omega
    exact (((h.setCell _ _ (hne _)).setCell _ _ (hne _)).setCell _ _ (hne _)).setCell _ _ (hne _)
  · with_reducible repeat (first | exact Ext.refl _ | apply Ext.alloc | (refine Ext.setCell ?_ (by simp) _) | (refine Ext.trans ?_ hx2) | (refine Ext.trans ?_ hx))
end Go.Proofs.YtnklmehphmidhaaGreatDoor
