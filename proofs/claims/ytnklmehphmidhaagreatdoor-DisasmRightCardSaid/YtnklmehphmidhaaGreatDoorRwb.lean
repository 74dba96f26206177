/- A slice of bytes that came in, opened. -/
import Derived.Test.YtnklmehphmidhaaGreatDoorRwa
import Derived.Test.YtnklmehphmidhaaGreatDoorMb
namespace Go.Proofs.YtnklmehphmidhaaGreatDoor
open Go.ChangeShapes Go.WideShapes Go.ChangeAt Go.RowKit
set_option linter.unusedVariables false
set_option linter.unusedSimpArgs false

/-- A slice of bytes that came in, opened. -/
theorem byts_of {H : Type} {enc : TypeId × Value → H} {W : World} {fuel : Nat} {a0 : Option Addr} {len cap : Nat} {d : DataW H} {p : List MemPlace}
    (h : DataW.trod enc Tryz.prog W 0 (fun _ => true) true fuel 22 (Value.slice a0 len cap).cells.toList = some (d, p)) (hlt : ∀ x ∈ p, x.block < W.heap.size)
    (hsz : ∀ zs : List Int, d = .slice (lits .u8 (zs.take len)) (lits .u8 (zs.drop len)) → zs.length = cap → cap ≤ 140737488351232) : ∃ bl, Byts W (.slice a0 len cap) bl := by
  rcases open_ints Tryz.underlying22 Tryz.underlying5 Tryz.cells5 h with ⟨hcs, hx⟩ | ⟨a, len', cap', zs, hcs, _, hl, hm, hz, hx, hcell, hwz⟩
  · simp [Value.cells] at hcs
    obtain ⟨rfl, rfl, rfl⟩ := hcs
    exact ⟨[], none, 0, rfl, Nat.le_refl _, by omega, by simp, fun hp => absurd hp (by simp)⟩
  · simp [Value.cells] at hcs
    obtain ⟨rfl, rfl, rfl⟩ := hcs
    simp only [Prod.mk.injEq] at hx
    obtain ⟨rfl, rfl⟩ := hx
    simp only [if_true] at hz
    have hc := hsz zs rfl hz
    have hlen : (zs.take len).length = len := by rw [List.length_take]; omega
    refine ⟨zs.take len, _, _, by rw [hlen], by rw [hlen]; exact hl, hc, fun x hx => wf_u8 (hwz x (List.mem_of_mem_take hx)), fun hp => ?_⟩
    rw [hlen] at hp
    obtain ⟨b, off, spot⟩ := a
    have hspot : spot = none := by simpa [Addr.add] using World.cell?_spot (hcell 0 (by omega))
    subst hspot
    have hbW : b < W.heap.size := hlt (.cell b off) (MemPlace.mem_row.2 ⟨0, by omega, by simp⟩)
    refine ⟨b, off, rfl, hbW, fun j hj => ?_⟩
    rw [hlen] at hj
    have := hcell j (by omega)
    rw [show (⟨b, off, none⟩ : Addr).add j = ⟨b, off + j, none⟩ by unfold Addr.add; split <;> simp_all] at this
    rw [this]
    rw [List.getD_eq_getElem?_getD, List.getD_eq_getElem?_getD, List.getElem?_take_of_lt hj]
end Go.Proofs.YtnklmehphmidhaaGreatDoor
