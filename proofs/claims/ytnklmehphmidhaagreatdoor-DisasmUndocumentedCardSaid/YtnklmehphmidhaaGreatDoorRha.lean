/- disasm.Text. -/
import Derived.Test.YtnklmehphmidhaaGreatDoorRgf
namespace Go.Proofs.YtnklmehphmidhaaGreatDoor
open Go.RowKit
set_option maxRecDepth 100000
set_option maxHeartbeats 2000000
set_option linter.unusedSimpArgs false
set_option linter.unusedVariables false

/-- v reads as the statements l. -/
def RdSt (w : World) (v : Value) (l : List SR) : Prop :=
  ∃ A c, v = .slice A l.length c ∧ (0 < l.length → ∃ b o, A = some ⟨b, o, none⟩ ∧ b < w.heap.size ∧ ∀ (k : Nat) (s : SR), l[k]? = some s →
    ∃ va, w.cell? ⟨b, o + k * 4, none⟩ = some (.string s.label) ∧ w.cell? ⟨b, o + k * 4 + 1, none⟩ = some (.bool s.colon) ∧ w.cell? ⟨b, o + k * 4 + 2, none⟩ = some (.string s.op) ∧ w.cell? ⟨b, o + k * 4 + 3, none⟩ = some va ∧ RdA w va s.args)
theorem RdSt.ext {w w' : World} {v : Value} {l : List SR} (h : RdSt w v l) (hb : Ext w w') : RdSt w' v l := by
  obtain ⟨A, c, hv, h3⟩ := h
  refine ⟨A, c, hv, fun hp => ?_⟩
  obtain ⟨b, o, hA, hlt, hc⟩ := h3 hp
  refine ⟨b, o, hA, Nat.lt_of_lt_of_le hlt hb.size, fun k s hs => ?_⟩
  obtain ⟨va, c0, c1, c2, c3, ha⟩ := hc k s hs
  exact ⟨va, hb.cell c0, hb.cell c1, hb.cell c2, hb.cell c3, ha.ext hb⟩
theorem RdSt.of {w : World} {base : Nat} {v : Value} {L : List SL} (h : Sts w base v L) : RdSt w v (L.map (fun x : SL => x.s)) := by
  have hrow := h.row
  obtain ⟨h1, h2 | ⟨g, cap, cur, rfl, hb, hg, hcap, hm, hs, hx⟩⟩ := id hrow
  · obtain ⟨rfl, hn⟩ := h2
    exact ⟨none, 0, by rw [List.length_map, hn], fun hp => absurd hp (by rw [List.length_map]; omega)⟩
  · refine ⟨some ⟨g, 0, none⟩, cap, by rw [List.length_map], fun hp => ⟨g, 0, rfl, (Array.getElem?_eq_some_iff.1 hg).1, fun k s hk => ?_⟩⟩
    rw [List.getElem?_map] at hk
    obtain ⟨x, hxk, rfl⟩ : ∃ x, L[k]? = some x ∧ x.s = s := by
      cases hL : L[k]? with
      | none => rw [hL] at hk; cases hk
      | some x => rw [hL] at hk; exact ⟨x, rfl, by simpa using hk⟩
    have key : ∀ j u, j < 4 → (SL.cells x)[j]? = some u → w.cell? ⟨g, k * 4 + j, none⟩ = some u := fun j u hj hu => own_cell hrow (by rw [flatMap_at SL.cells 4 (fun _ => rfl) L k j x hxk hj]; exact hu)
    rw [Nat.zero_add]
    exact ⟨x.v, key 0 _ (by omega) rfl, key 1 _ (by omega) rfl, key 2 _ (by omega) rfl, key 3 _ (by omega) rfl, RdA.args (h.args x (List.mem_of_getElem? hxk))⟩

/-- The text of statements. -/
def textL (d : Int) (l : List SR) : List UInt8 := l.flatMap (fun s => (showT d s).data.toList ++ [10])
def textS (d : Int) (l : List SR) : ByteArray := ⟨(textL d l).toArray⟩
def NumOk (s : SR) : Prop := ∀ a ∈ s.args, 0 ≤ a.n ∧ a.n ≤ 65535
theorem textL_len {d : Int} : ∀ {l : List SR}, (∀ s ∈ l, Fine d s) → (textL d l).length ≤ l.length * 106
  | [], _ => by simp [textL]
  | s :: l, h => by
    have h1 := textL_len (d := d) (l := l) (fun x hx => h x (by simp [hx]))
    have h2 := showT_size (h s (by simp))
    have h3 : (showT d s).data.toList.length = (showT d s).size := Array.length_toList
    unfold textL at h1 ⊢
    simp only [List.flatMap_cons, List.length_append, List.length_cons, List.length_nil, h3] at h1 ⊢
    omega
theorem textL_snoc (d : Int) (l : List SR) (s : SR) : textL d (l ++ [s]) = textL d l ++ (showT d s).data.toList ++ [10] := by
  unfold textL; simp

theorem IsBuilder.ext {T e : TypeId} {B b : Nat} {bs : List Value} {w w' : World} (h : Lib.IsBuilder T e B b bs w) (hx : Ext w w') : Lib.IsBuilder T e B b bs w' := by
  have key : ∀ p, Lib.BuilderAt T e B b p bs w → Lib.BuilderAt T e B b p bs w' := by
    rintro p ⟨hB, v, hb, hown, hne⟩
    refine ⟨hB, v, ?_, (Tr.of_ext (B := fun _ => False) hx).own hown (fun _ _ e => e), hne⟩
    rw [Below.block hx b (Array.getElem?_eq_some_iff.1 hb).1]
    exact hb
  exact h.elim (fun h => .inl (key _ h)) (fun h => .inr (key _ h))
theorem IsBuilder.new (w : World) : Lib.IsBuilder 65 5 w.heap.size w.heap.size [] (w.alloc (.cells #[.pointer none, .slice none 0 0] 65)) :=
  .inl ⟨Nat.le_refl _, .slice none 0 0, heap_alloc_new _ _, World.ownsRow_nil _ _ _ _, by simp [Value.ownBlock]⟩

theorem text_bad (d p : Int) (v : Value) (r : List SR × Int) (w : World) (hk : (r.2 == 0) = false) (hS : Calls Tryz.prog 9 #[.int .i64 d, .int .i64 p, v] w (RStmts w r)) (hv : ∃ A n c, v = .slice A n c) :
    Calls Tryz.prog 12 #[.int .i64 d, .int .i64 p, v] w fun e w' => e = .returned (.tuple #[.string ⟨#[]⟩, .int .i64 r.2]) ∧ Ext w w' := by
  obtain ⟨A, n, c, rfl⟩ := hv
  obtain ⟨l, k⟩ := r
  simp only at hk
  have HS := Lib.hid hS; clear hS
  go_enter Tryz.func12, Tryz.ntmps12
  go_wp2_with (go_at_call 9; refine HS.out.mono ?_; rintro e w1 ⟨v1, L, rfl, hL, hs1, hx1⟩; obtain ⟨A1, c1, rfl⟩ := hs1.slice; have HL := Lib.hid hL; clear hL hs1)
  go_ret2
  exact ⟨rfl, hx1⟩

theorem text_ok (d p : Int) (hd : 0 ≤ d ∧ d ≤ 2) (v : Value) (l : List SR) (w : World) (hT : Tab w) (hS : Calls Tryz.prog 9 #[.int .i64 d, .int .i64 p, v] w (RStmts w (l, 0))) (hv : ∃ A n c, v = .slice A n c)
    (hF : ∀ s ∈ l, Fine d s) (hN : ∀ s ∈ l, NumOk s) (hlen : l.length ≤ 100000) :
    Calls Tryz.prog 12 #[.int .i64 d, .int .i64 p, v] w fun e w' => e = .returned (.tuple #[.string (textS d l), .int .i64 0]) ∧ Ext w w' := by
  obtain ⟨A, n, c, rfl⟩ := hv
  have HS := Lib.hid hS; clear hS
  have HF := Lib.hid hF; clear hF
  have HN := Lib.hid hN; clear hN
  have HT := Lib.hid hT; clear hT
  have HTX := Lib.hid (show textS d l = ⟨(textL d l).toArray⟩ from rfl)
  go_enter Tryz.func12, Tryz.ntmps12
  go_wp2_with (go_at_call 9; refine HS.out.mono ?_; rintro e w1 ⟨v1, L, rfl, hL, hs1, hx1⟩; have hr1 := RdSt.of hs1; rw [hL] at hr1; clear hs1 hL; obtain ⟨A1, c1, rfl, hrr⟩ := hr1; have HR := Lib.hid hrr; have HX1 := Lib.hid hx1; clear hrr hx1)
  generalize hLn : l.length = n1 at *
  have HLn := Lib.hid hLn; clear hLn
  have HB := Lib.hid (IsBuilder.new w1)
  go_loopw [27] (fun i wr => ∃ k, k ≤ n1 ∧ i = .int .i64 (k : Nat) ∧ Hid (Ext w1 wr) ∧ Hid (Lib.IsBuilder 65 5 w1.heap.size w1.heap.size (Lib.byteCells (textL d (l.take k))) wr)) (fun i _ => n1 - (intOf i).toNat)
  case atStart => exact ⟨0, by omega, rfl, Lib.hid ((Ext.refl _).alloc _), HB⟩
  case round =>
    obtain ⟨k, hk, rfl, HE, HBk⟩ := hrel
    by_cases hlt : k < n1
    · obtain ⟨b, o, rfl, hb, hcell⟩ := HR.out (by omega)
      obtain ⟨s, hs⟩ : ∃ s, l[k]? = some s := ⟨_, List.getElem?_eq_getElem (by rw [HLn.out]; exact hlt)⟩
      obtain ⟨va, c0, c1, c2, c3, ha⟩ := hcell k s hs
      have k0 := HE.out.cell c0
      have k1 := HE.out.cell c1
      have k2 := HE.out.cell c2
      have k3 := HE.out.cell c3
      have HA := Lib.hid (ha.ext HE.out)
      obtain ⟨Aa, ca, rfl, _⟩ := ha
      have HSM := Lib.hid hs
      have HM : Hid (s ∈ l) := Lib.hid (List.mem_of_getElem? hs)
      have htk : (textL d (l.take k)).length ≤ k * 106 := by
        have := textL_len (d := d) (l := l.take k) (fun x hx => HF.out x (List.mem_of_mem_take hx))
        rw [List.length_take, HLn.out, Nat.min_eq_left hk] at this
        exact this
      have HLA : Hid ((Lib.byteCells (textL d (l.take k))).length = (textL d (l.take k)).length) := Lib.hid (Lib.byteCells_length _)
      have HLB : Hid ((Lib.byteCells (textL d (l.take k)) ++ Lib.strCells (showT d s)).length = (textL d (l.take k)).length + (showT d s).size) := Lib.hid (by rw [List.length_append, Lib.byteCells_length, Lib.strCells_length])
      have hss : (showT d s).size ≤ 105 := showT_size (HF.out s HM.out)
      clear c0 c1 c2 c3 hcell hs
      go_wp2_with (first
        | (go_at_call 28; refine (Tryz.Builder_WriteByte w1.heap.size w1.heap.size _ 10 _ (.inr HB6.out) (by rw [HLB.out]; omega) (by have := HX6.out.size; omega)).mono ?_; rintro e w7 ⟨rfl, hb7, hx7⟩; have HB7 := Lib.hid hb7; have HX7 := Lib.hid (show Ext w1 w7 from Below.trans HX6.out hx7); clear hb7 hx7)
        | (go_at_call 27; refine (Tryz.Builder_WriteString w1.heap.size w1.heap.size _ (showT d s) _ (IsBuilder.ext HBk.out HX5.out) (by rw [HLA.out]; have := showT_size (HF.out s HM.out); omega) (by have := (HE.out.trans HX5.out).size; omega)).mono ?_; rintro e w6 ⟨rfl, hb6, hx6⟩; have HB6 := Lib.hid hb6; have HX6 := Lib.hid (show Ext w1 w6 from Below.trans (HE.out.trans HX5.out) hx6); clear hb6 hx6)
        | (go_at_call 26; refine (show26_any d hd s _ (HF.out s HM.out) (HN.out s HM.out) _ (HT.out.ext (((HX1.out.trans HE.out).alloc _))) (HA.out.ext ((Ext.refl _).alloc _))).mono ?_; rintro e w5 ⟨rfl, hx5⟩; have HX5 := Lib.hid (((Ext.refl wr).alloc _).trans hx5); clear hx5))
      go_roundw
      case rel =>
        refine ⟨k + 1, by omega, by go_num, HX7, Lib.hid (.inr ?_)⟩
        have ht : l.take (k + 1) = l.take k ++ [s] := by rw [List.take_add_one, HSM.out]; rfl
        have := HB7.out
        rw [ht, textL_snoc, Lib.byteCells_append, Lib.byteCells_append]
        exact this
      case measure => simp [intOf]; omega
    · obtain rfl : k = n1 := by omega
      have hb := HBk.out
      rw [List.take_of_length_le (by rw [HLn.out]; omega)] at hb
      have HBf := Lib.hid hb; clear hb
      go_wp2_with (go_at_call 29; refine (Tryz.Builder_String_any w1.heap.size w1.heap.size _ _ HBf.out (by have := HE.out.size; omega)).mono ?_; rw [← HTX.out]; rintro e w8 ⟨rfl, hx8⟩)
      go_ret2
      exact ⟨rfl, HX1.out.trans (show Ext w1 w8 from Below.trans HE.out hx8)⟩
end Go.Proofs.YtnklmehphmidhaaGreatDoor
