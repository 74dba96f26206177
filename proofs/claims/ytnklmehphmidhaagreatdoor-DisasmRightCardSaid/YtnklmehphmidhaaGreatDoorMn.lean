/- disasm.Text; the 8080's pieces are right; the chapter's example. -/
import Derived.Test.YtnklmehphmidhaaGreatDoorMm
namespace Go.Proofs.YtnklmehphmidhaaGreatDoor
section
open Go.RowKit
set_option maxRecDepth 100000
set_option maxHeartbeats 2000000
set_option linter.unusedSimpArgs false
set_option linter.unusedVariables false

/-- v reads as the statements l. -/
def RdSt (w : World) (v : Value) (l : List SR) : Prop :=
  ∃ A c, v = .slice A l.length c ∧ (0 < l.length → ∃ b o, A = some ⟨b, o, none⟩ ∧ b < w.heap.size ∧ ∀ (k : Nat) (s : SR), l[k]? = some s →
    ∃ va, w.cell? ⟨b, o + k * 4, none⟩ = some (.string s.label) ∧ w.cell? ⟨b, o + k * 4 + 1, none⟩ = some (.bool s.colon) ∧ w.cell? ⟨b, o + k * 4 + 2, none⟩ = some (.string s.op) ∧ w.cell? ⟨b, o + k * 4 + 3, none⟩ = some va ∧ RdA w va s.args)
theorem RdSt.ext {w w' : World} {v : Value} {l : List SR} (h : RdSt w v l) (hb : Ext w w') : RdSt w' v l := by
  obtain ⟨A, c, hv, h3⟩ := h
  refine ⟨A, c, hv, fun hp => ?_⟩
  obtain ⟨b, o, hA, hlt, hc⟩ := h3 hp
  refine ⟨b, o, hA, Nat.lt_of_lt_of_le hlt hb.size, fun k s hs => ?_⟩
  obtain ⟨va, c0, c1, c2, c3, ha⟩ := hc k s hs
  exact ⟨va, hb.cell c0, hb.cell c1, hb.cell c2, hb.cell c3, ha.ext hb⟩
theorem RdSt.of {w : World} {base : Nat} {v : Value} {L : List SL} (h : Sts w base v L) : RdSt w v (L.map (fun x : SL => x.s)) := by
  have hrow := h.row
  obtain ⟨h1, h2 | ⟨g, cap, cur, rfl, hb, hg, hcap, hm, hs, hx⟩⟩ := id hrow
  · obtain ⟨rfl, hn⟩ := h2
    exact ⟨none, 0, by rw [List.length_map, hn], fun hp => absurd hp (by rw [List.length_map]; omega)⟩
  · refine ⟨some ⟨g, 0, none⟩, cap, by rw [List.length_map], fun hp => ⟨g, 0, rfl, (Array.getElem?_eq_some_iff.1 hg).1, fun k s hk => ?_⟩⟩
    rw [List.getElem?_map] at hk
    obtain ⟨x, hxk, rfl⟩ : ∃ x, L[k]? = some x ∧ x.s = s := by
      cases hL : L[k]? with
      | none => rw [hL] at hk; cases hk
      | some x => rw [hL] at hk; exact ⟨x, rfl, by simpa using hk⟩
    have key : ∀ j u, j < 4 → (SL.cells x)[j]? = some u → w.cell? ⟨g, k * 4 + j, none⟩ = some u := fun j u hj hu => own_cell hrow (by rw [flatMap_at SL.cells 4 (fun _ => rfl) L k j x hxk hj]; exact hu)
    rw [Nat.zero_add]
    exact ⟨x.v, key 0 _ (by omega) rfl, key 1 _ (by omega) rfl, key 2 _ (by omega) rfl, key 3 _ (by omega) rfl, RdA.args (h.args x (List.mem_of_getElem? hxk))⟩

/-- The text of statements. -/
def textL (d : Int) (l : List SR) : List UInt8 := l.flatMap (fun s => (showT d s).data.toList ++ [10])
def textS (d : Int) (l : List SR) : ByteArray := ⟨(textL d l).toArray⟩
def NumOk (s : SR) : Prop := ∀ a ∈ s.args, 0 ≤ a.n ∧ a.n ≤ 65535
theorem textL_len {d : Int} : ∀ {l : List SR}, (∀ s ∈ l, Fine d s) → (textL d l).length ≤ l.length * 106
  | [], _ => by simp [textL]
  | s :: l, h => by
    have h1 := textL_len (d := d) (l := l) (fun x hx => h x (by simp [hx]))
    have h2 := showT_size (h s (by simp))
    have h3 : (showT d s).data.toList.length = (showT d s).size := Array.length_toList
    unfold textL at h1 ⊢
    simp only [List.flatMap_cons, List.length_append, List.length_cons, List.length_nil, h3] at h1 ⊢
    omega
theorem textL_snoc (d : Int) (l : List SR) (s : SR) : textL d (l ++ [s]) = textL d l ++ (showT d s).data.toList ++ [10] := by
  unfold textL; simp

theorem IsBuilder.ext {T e : TypeId} {B b : Nat} {bs : List Value} {w w' : World} (h : Lib.IsBuilder T e B b bs w) (hx : Ext w w') : Lib.IsBuilder T e B b bs w' := by
  have key : ∀ p, Lib.BuilderAt T e B b p bs w → Lib.BuilderAt T e B b p bs w' := by
    rintro p ⟨hB, v, hb, hown, hne⟩
    refine ⟨hB, v, ?_, (Tr.of_ext (B := fun _ => False) hx).own hown (fun _ _ e => e), hne⟩
    rw [Below.block hx b (Array.getElem?_eq_some_iff.1 hb).1]
    exact hb
  exact h.elim (fun h => .inl (key _ h)) (fun h => .inr (key _ h))
theorem IsBuilder.new (w : World) : Lib.IsBuilder 65 5 w.heap.size w.heap.size [] (w.alloc (.cells #[.pointer none, .slice none 0 0] 65)) :=
  .inl ⟨Nat.le_refl _, .slice none 0 0, heap_alloc_new _ _, World.ownsRow_nil _ _ _ _, by simp [Value.ownBlock]⟩

theorem text_bad (d p : Int) (v : Value) (r : List SR × Int) (w : World) (hk : (r.2 == 0) = false) (hS : Calls Tryz.prog 9 #[.int .i64 d, .int .i64 p, v] w (RStmts w r)) (hv : ∃ A n c, v = .slice A n c) :
    Calls Tryz.prog 12 #[.int .i64 d, .int .i64 p, v] w fun e w' => e = .returned (.tuple #[.string ⟨#[]⟩, .int .i64 r.2]) ∧ Ext w w' := by
  obtain ⟨A, n, c, rfl⟩ := hv
  obtain ⟨l, k⟩ := r
  simp only at hk
  have HS := Lib.hid hS; clear hS
  go_enter Tryz.func12, Tryz.ntmps12
  go_wp2_with (go_at_call 9; refine HS.out.mono ?_; rintro e w1 ⟨v1, L, rfl, hL, hs1, hx1⟩; obtain ⟨A1, c1, rfl⟩ := hs1.slice; have HL := Lib.hid hL; clear hL hs1)
  go_ret2
  exact ⟨rfl, hx1⟩

theorem text_ok (d p : Int) (hd : 0 ≤ d ∧ d ≤ 2) (v : Value) (l : List SR) (w : World) (hT : Tab w) (hS : Calls Tryz.prog 9 #[.int .i64 d, .int .i64 p, v] w (RStmts w (l, 0))) (hv : ∃ A n c, v = .slice A n c)
    (hF : ∀ s ∈ l, Fine d s) (hN : ∀ s ∈ l, NumOk s) (hlen : l.length ≤ 100000) :
    Calls Tryz.prog 12 #[.int .i64 d, .int .i64 p, v] w fun e w' => e = .returned (.tuple #[.string (textS d l), .int .i64 0]) ∧ Ext w w' := by
  obtain ⟨A, n, c, rfl⟩ := hv
  have HS := Lib.hid hS; clear hS
  have HF := Lib.hid hF; clear hF
  have HN := Lib.hid hN; clear hN
  have HT := Lib.hid hT; clear hT
  have HTX := Lib.hid (show textS d l = ⟨(textL d l).toArray⟩ from rfl)
  go_enter Tryz.func12, Tryz.ntmps12
  go_wp2_with (go_at_call 9; refine HS.out.mono ?_; rintro e w1 ⟨v1, L, rfl, hL, hs1, hx1⟩; have hr1 := RdSt.of hs1; rw [hL] at hr1; clear hs1 hL; obtain ⟨A1, c1, rfl, hrr⟩ := hr1; have HR := Lib.hid hrr; have HX1 := Lib.hid hx1; clear hrr hx1)
  generalize hLn : l.length = n1 at *
  have HLn := Lib.hid hLn; clear hLn
  have HB := Lib.hid (IsBuilder.new w1)
  go_loopw [27] (fun i wr => ∃ k, k ≤ n1 ∧ i = .int .i64 (k : Nat) ∧ Hid (Ext w1 wr) ∧ Hid (Lib.IsBuilder 65 5 w1.heap.size w1.heap.size (Lib.byteCells (textL d (l.take k))) wr)) (fun i _ => n1 - (intOf i).toNat)
  case atStart => exact ⟨0, by omega, rfl, Lib.hid ((Ext.refl _).alloc _), HB⟩
  case round =>
    obtain ⟨k, hk, rfl, HE, HBk⟩ := hrel
    by_cases hlt : k < n1
    · obtain ⟨b, o, rfl, hb, hcell⟩ := HR.out (by omega)
      obtain ⟨s, hs⟩ : ∃ s, l[k]? = some s := ⟨_, List.getElem?_eq_getElem (by rw [HLn.out]; exact hlt)⟩
      obtain ⟨va, c0, c1, c2, c3, ha⟩ := hcell k s hs
      have k0 := HE.out.cell c0
      have k1 := HE.out.cell c1
      have k2 := HE.out.cell c2
      have k3 := HE.out.cell c3
      have HA := Lib.hid (ha.ext HE.out)
      obtain ⟨Aa, ca, rfl, _⟩ := ha
      have HSM := Lib.hid hs
      have HM : Hid (s ∈ l) := Lib.hid (List.mem_of_getElem? hs)
      have htk : (textL d (l.take k)).length ≤ k * 106 := by
        have := textL_len (d := d) (l := l.take k) (fun x hx => HF.out x (List.mem_of_mem_take hx))
        rw [List.length_take, HLn.out, Nat.min_eq_left hk] at this
        exact this
      have HLA : Hid ((Lib.byteCells (textL d (l.take k))).length = (textL d (l.take k)).length) := Lib.hid (Lib.byteCells_length _)
      have HLB : Hid ((Lib.byteCells (textL d (l.take k)) ++ Lib.strCells (showT d s)).length = (textL d (l.take k)).length + (showT d s).size) := Lib.hid (by rw [List.length_append, Lib.byteCells_length, Lib.strCells_length])
      have hss : (showT d s).size ≤ 105 := showT_size (HF.out s HM.out)
      clear c0 c1 c2 c3 hcell hs
      go_wp2_with (first
        | (go_at_call 28; refine (Tryz.Builder_WriteByte w1.heap.size w1.heap.size _ 10 _ (.inr HB6.out) (by rw [HLB.out]; omega) (by have := HX6.out.size; omega)).mono ?_; rintro e w7 ⟨rfl, hb7, hx7⟩; have HB7 := Lib.hid hb7; have HX7 := Lib.hid (show Ext w1 w7 from Below.trans HX6.out hx7); clear hb7 hx7)
        | (go_at_call 27; refine (Tryz.Builder_WriteString w1.heap.size w1.heap.size _ (showT d s) _ (IsBuilder.ext HBk.out HX5.out) (by rw [HLA.out]; have := showT_size (HF.out s HM.out); omega) (by have := (HE.out.trans HX5.out).size; omega)).mono ?_; rintro e w6 ⟨rfl, hb6, hx6⟩; have HB6 := Lib.hid hb6; have HX6 := Lib.hid (show Ext w1 w6 from Below.trans (HE.out.trans HX5.out) hx6); clear hb6 hx6)
        | (go_at_call 26; refine (show26_any d hd s _ (HF.out s HM.out) (HN.out s HM.out) _ (HT.out.ext (((HX1.out.trans HE.out).alloc _))) (HA.out.ext ((Ext.refl _).alloc _))).mono ?_; rintro e w5 ⟨rfl, hx5⟩; have HX5 := Lib.hid (((Ext.refl wr).alloc _).trans hx5); clear hx5))
      go_roundw
      case rel =>
        refine ⟨k + 1, by omega, by go_num, HX7, Lib.hid (.inr ?_)⟩
        have ht : l.take (k + 1) = l.take k ++ [s] := by rw [List.take_add_one, HSM.out]; rfl
        have := HB7.out
        rw [ht, textL_snoc, Lib.byteCells_append, Lib.byteCells_append]
        exact this
      case measure => simp [intOf]; omega
    · obtain rfl : k = n1 := by omega
      have hb := HBk.out
      rw [List.take_of_length_le (by rw [HLn.out]; omega)] at hb
      have HBf := Lib.hid hb; clear hb
      go_wp2_with (go_at_call 29; refine (Tryz.Builder_String_any w1.heap.size w1.heap.size _ _ HBf.out (by have := HE.out.size; omega)).mono ?_; rw [← HTX.out]; rintro e w8 ⟨rfl, hx8⟩)
      go_ret2
      exact ⟨rfl, HX1.out.trans (show Ext w1 w8 from Below.trans HE.out hx8)⟩
end

section
open Go.RowKit
set_option maxRecDepth 100000
set_option maxHeartbeats 2000000
set_option linter.unusedSimpArgs false
set_option linter.unusedVariables false

theorem byteI_nums (l : List Int) (h : ∀ x ∈ l, 0 ≤ x ∧ x ≤ 255) (i : Nat) (hi : i < l.length) : byteI (strOfNums l) i = l.getD i 0 := by
  unfold byteI
  rw [strOfNums_data]
  have hx := h (l[i]) (List.getElem_mem hi)
  simp only [List.getD_eq_getElem?_getD, List.getElem?_map, List.getElem?_eq_getElem hi, Option.map_some, Option.getD_some]
  rw [UInt8.toNat_ofNat']
  omega
theorem hexD_ok (x : Int) (h0 : 0 ≤ x) (h1 : x < 16) : okC false (hexD x) = true ∧ upI (hexD x) = hexD x ∧ 0 ≤ hexD x ∧ hexD x ≤ 255 := by
  obtain ⟨n, rfl⟩ := Int.eq_ofNat_of_zero_le h0
  have key : ∀ i : Fin 16, okC false (hexD (i.val : Nat)) = true ∧ upI (hexD (i.val : Nat)) = hexD (i.val : Nat) ∧ 0 ≤ hexD (i.val : Nat) ∧ hexD (i.val : Nat) ≤ 255 := by decide +kernel
  exact key ⟨n, by omega⟩
theorem inS_big {s : ByteArray} {l : List ByteArray} {n : Nat} (h : n < s.size) (hl : ∀ a ∈ l, a.size ≤ n) : inS s l = false := by
  rw [Bool.eq_false_iff]
  intro e
  have := inS_size e hl
  omega

theorem labN (n : Int) : LabN (labelS n) := by
  have h1 := hexD_ok (n / 16 / 16 / 16 % 16) (by omega) (by omega)
  have h2 := hexD_ok (n / 16 / 16 % 16) (by omega) (by omega)
  have h3 := hexD_ok (n / 16 % 16) (by omega) (by omega)
  have h4 := hexD_ok (n % 16) (by omega) (by omega)
  unfold labelS
  generalize hexD (n / 16 / 16 / 16 % 16) = a at *
  generalize hexD (n / 16 / 16 % 16) = b at *
  generalize hexD (n / 16 % 16) = c at *
  generalize hexD (n % 16) = e at *
  have hsz : (strOfNums [76, a, b, c, e]).size = 5 := strOfNums_size _
  have hrg : ∀ x ∈ [76, a, b, c, e], 0 ≤ x ∧ x ≤ 255 := by
    intro x hx
    simp only [List.mem_cons, List.mem_nil_iff, or_false] at hx
    rcases hx with rfl | rfl | rfl | rfl | rfl
    · omega
    · exact h1.2.2
    · exact h2.2.2
    · exact h3.2.2
    · exact h4.2.2
  have hb := fun i hi => byteI_nums [76, a, b, c, e] hrg i hi
  have b0 : byteI (strOfNums [76, a, b, c, e]) 0 = 76 := hb 0 (by simp)
  have b1 : byteI (strOfNums [76, a, b, c, e]) 1 = a := hb 1 (by simp)
  have b2 : byteI (strOfNums [76, a, b, c, e]) 2 = b := hb 2 (by simp)
  have b3 : byteI (strOfNums [76, a, b, c, e]) 3 = c := hb 3 (by simp)
  have b4 : byteI (strOfNums [76, a, b, c, e]) 4 = e := hb 4 (by simp)
  have hnm : nameB (strOfNums [76, a, b, c, e]) = true := by
    refine nameB_true (by omega) (by omega) (fun i hi => ?_)
    rcases (by omega : i = 0 ∨ i = 1 ∨ i = 2 ∨ i = 3 ∨ i = 4) with rfl | rfl | rfl | rfl | rfl
    · unfold okAt; rw [b0]; decide +kernel
    · unfold okAt; rw [b1]; exact h1.1
    · unfold okAt; rw [b2]; exact h2.1
    · unfold okAt; rw [b3]; exact h3.1
    · unfold okAt; rw [b4]; exact h4.1
  have hup : upperS (strOfNums [76, a, b, c, e]) = strOfNums [76, a, b, c, e] := by
    unfold upperS
    rw [hsz]
    have : List.range 5 = [0, 1, 2, 3, 4] := by decide
    rw [this]
    simp only [List.map_cons, List.map_nil, b0, b1, b2, b3, b4, h1.2.1, h2.2.1, h3.2.1, h4.2.1]
    rfl
  have hz3 : opsL.all (fun a => decide (a.size ≤ 4)) = true := by decide +kernel
  have hz4 : setsL.all (fun a => decide (a.size ≤ 4)) = true := by decide +kernel
  refine ⟨hnm, by rw [hup]; exact beq_self_eq_true _, inS_big (n := 4) (by omega) (fun a ha => by simpa using List.all_eq_true.1 hz3 a ha), fun d => ?_⟩
  unfold plainB greatB
  rw [hnm, hup, inS_big (n := 4) (by omega) (resL_size d), inS_big (n := 4) (by omega) (fun a ha => by simpa using List.all_eq_true.1 hz4 a ha)]
  simp [isS]

/-- A piece that is right. -/
structure PieceOk (d : Int) (x : Piece) : Prop where
  t0 : -1 ≤ x.tgt
  t1 : x.tgt ≤ 65535
  n0 : 0 ≤ x.tgt → 0 < x.args.length
  n1 : x.args.length ≤ 2
  opne : x.op.toList.isEmpty = false
  opg : greatB x.op = true
  opn : inS x.op setsL = false
  args : ∀ a ∈ x.args, ARF d a
  num : ∀ a ∈ x.args, 0 ≤ a.n ∧ a.n ≤ 65535

theorem sweep_all (F : Int → List Int → Piece) (Q : Piece → Prop) (hF : ∀ (p : Int) (b : List Int), (∀ x ∈ b, 0 ≤ x ∧ x ≤ 255) → 0 < b.length → 0 ≤ p → p + b.length ≤ 65536 → Q (F p b) ∧ 1 ≤ (F p b).size ∧ (F p b).size ≤ b.length) :
    ∀ (f : Nat) (p : Int) (b : List Int), (∀ x ∈ b, 0 ≤ x ∧ x ≤ 255) → 0 ≤ p → p + b.length ≤ 65536 → ∀ x ∈ sweepS F f p b, Q x.2 ∧ p ≤ x.1 ∧ x.1 < p + b.length
  | 0, p, b, _, _, _, x, h => by simp [sweepS] at h
  | f + 1, p, b, hr, h0, h1, x, h => by
    simp only [sweepS] at h
    split at h
    · simp at h
    · rename_i hb
      obtain ⟨q, s1, s2⟩ := hF p b hr (by omega) h0 h1
      rcases List.mem_cons.1 h with h | h
      · subst h; exact ⟨q, by simp, by simp; omega⟩
      · have hl : (b.drop (F p b).size.toNat).length = b.length - (F p b).size.toNat := List.length_drop
        obtain ⟨q2, a1, a2⟩ := sweep_all F Q hF f _ _ (fun y hy => hr y (List.mem_of_mem_drop hy)) (by omega) (by rw [hl]; omega) x h
        rw [hl] at a2
        exact ⟨q2, by omega, by omega⟩

theorem good_of {d : Int} {x : Int × Piece} (h : PieceOk d x.2) (h0 : 0 ≤ x.1) (h1 : x.1 ≤ 65535) : Good x := ⟨h0, h1, h.t0, h.t1, h.n0, by have := h.n1; omega⟩
theorem fine_st {d : Int} {x : Int × Piece} (h : PieceOk d x.2) (m : Int → Bool) : Fine d (stS m x) ∧ NumOk (stS m x) := by
  have hargs : ∀ a ∈ newArgs m x, ARF d a ∧ 0 ≤ a.n ∧ a.n ≤ 65535 := by
    intro a ha
    unfold newArgs at ha
    split at ha
    · rcases List.mem_append.1 ha with ha | ha
      · exact ⟨h.args a (List.dropLast_subset _ ha), h.num a (List.dropLast_subset _ ha)⟩
      · rw [List.mem_singleton.1 ha]
        exact ⟨.inr (.inr ⟨_, labN _, rfl⟩), by show (0 : Int) ≤ 0; omega, by show (0 : Int) ≤ 65535; omega⟩
    · exact ⟨h.args a ha, h.num a ha⟩
  refine ⟨⟨?_, h.opne, h.opg, h.opn, ?_, fun a ha => (hargs a ha).1⟩, fun a ha => (hargs a ha).2⟩
  · show ((if m x.1 = true then labelS x.1 else (⟨#[]⟩ : ByteArray)) = ⟨#[]⟩ ∧ m x.1 = false) ∨ (LabN (if m x.1 = true then labelS x.1 else (⟨#[]⟩ : ByteArray)) ∧ m x.1 = true)
    rcases Bool.eq_false_or_eq_true (m x.1) with e | e
    · right; rw [if_pos e]; exact ⟨labN _, e⟩
    · left; rw [if_neg (by rw [e]; simp)]; exact ⟨rfl, e⟩
  · show (newArgs m x).length ≤ 2
    have := h.n1
    unfold newArgs
    split
    · simp; omega
    · exact this
theorem fine_org (d p : Int) (h0 : 0 ≤ p) (h1 : p ≤ 65535) : Fine d (orgS p) ∧ NumOk (orgS p) := by
  have ha : ∀ a ∈ (orgS p).args, a = numA false p := by intro a ha; exact List.mem_singleton.1 ha
  refine ⟨⟨.inl ⟨rfl, rfl⟩, not_empty (show 0 < (ByteArray.mk #[79, 82, 71]).size by decide), ?_, ?_, (show 1 ≤ 2 by decide), fun a h => .inr (.inl ⟨false, p, .inl rfl, ha a h⟩)⟩, fun a h => by rw [ha a h]; exact ⟨h0, h1⟩⟩
  · show greatB ⟨#[79, 82, 71]⟩ = true; decide +kernel
  · show inS ⟨#[79, 82, 71]⟩ setsL = false; decide +kernel
theorem fine_all (F : Int → List Int → Piece) (d p : Int) (b : List Int) (hr : ∀ x ∈ b, 0 ≤ x ∧ x ≤ 255)
    (hF : ∀ (p : Int) (b : List Int), (∀ x ∈ b, 0 ≤ x ∧ x ≤ 255) → 0 < b.length → 0 ≤ p → p + b.length ≤ 65536 → PieceOk d (F p b) ∧ 1 ≤ (F p b).size ∧ (F p b).size ≤ b.length) :
    (∀ s ∈ (stmtsS F d p b).1, Fine d s ∧ NumOk s) ∧ (stmtsS F d p b).1.length ≤ 65537 := by
  unfold stmtsS
  split
  · simp
  · rename_i h1
    split
    · simp
    · rename_i h2
      split
      · simp
      · rename_i h3
        have hp : 0 ≤ p := by omega
        have hpl : p + b.length ≤ 65536 := by omega
        constructor
        · intro s hs
          rcases List.mem_cons.1 hs with hs | hs
          · subst hs; exact fine_org d p hp (by omega)
          · obtain ⟨x, hx, rfl⟩ := List.mem_map.1 hs
            exact fine_st (sweep_all F (PieceOk d) hF _ p b hr hp hpl x hx).1 _
        · show (_ :: List.map _ _).length ≤ _
          have := sweepS_len F b.length p b
          simp; omega
end

section
open Go.RowKit
set_option maxRecDepth 100000
set_option maxHeartbeats 2000000
set_option linter.unusedSimpArgs false
set_option linter.unusedVariables false

/-- Is an operand's word of a form right? -/
def kindOk (d : Int) (t : ByteArray) : Bool :=
  if isS t [100, 56] = true ∨ isS t [100, 49, 54] = true ∨ isS t [110] = true ∨ isS t [110, 110] = true then true
  else if isS t [40, 110, 41] = true ∨ isS t [40, 110, 110, 41] = true then !(d == 0)
  else decide (0 < t.size) && wordB d t
theorem kind_ok {d : Int} {t : ByteArray} (h : kindOk d t = true) (n : Int) (hn : 0 ≤ n ∧ n ≤ 65535) : ARF d (operandS t n) ∧ 0 ≤ (operandS t n).n ∧ (operandS t n).n ≤ 65535 := by
  unfold kindOk at h
  unfold operandS
  split at h
  · rename_i h1
    rw [if_pos h1]
    exact ⟨.inr (.inl ⟨false, n, .inl rfl, rfl⟩), hn⟩
  · rename_i h1
    rw [if_neg h1]
    split at h
    · rename_i h2
      rw [if_pos h2]
      exact ⟨.inr (.inl ⟨true, n, .inr (by simpa using h), rfl⟩), hn⟩
    · rename_i h2
      rw [if_neg h2]
      simp only [Bool.and_eq_true, decide_eq_true_eq] at h
      exact ⟨.inl ⟨t, not_empty h.1, h.2, rfl⟩, by show (0 : Int) ≤ 0; omega, by show (0 : Int) ≤ 65535; omega⟩
def opOk (s : ByteArray) : Bool := decide (0 < s.size) && greatB s && !inS s setsL
def ok80 (d : Int) (o : Int) : Bool :=
  decide (sizeL (wordsS o) = 0) || (opOk (nameOf (wordsD d o)) && decide ((wordsD d o).tail.length ≤ 2) && (rstB o || (wordsD d o).tail.all (kindOk d)) && (!jumpsB o || decide (0 < (wordsD d o).tail.length)) && (!rstB o || !jumpsB o))
theorem ok80_all : ((List.range 256).all (fun k => ok80 0 (k : Nat)) && (List.range 256).all (fun k => ok80 1 (k : Nat))) = true := by kernel_rfl
theorem ok80_at (d : Int) (hd : d = 0 ∨ d = 1) (o : Int) (h0 : 0 ≤ o) (h1 : o < 256) : ok80 d o = true := by
  obtain ⟨n, rfl⟩ := Int.eq_ofNat_of_zero_le h0
  have h := ok80_all
  simp only [Bool.and_eq_true] at h
  rcases hd with rfl | rfl
  · exact List.all_eq_true.1 h.1 n (List.mem_range.2 (by omega))
  · exact List.all_eq_true.1 h.2 n (List.mem_range.2 (by omega))

theorem f80_ok (d : Int) (hd : d = 0 ∨ d = 1) (p : Int) (b : List Int) (hr : ∀ x ∈ b, 0 ≤ x ∧ x ≤ 255) (hb : 0 < b.length) : PieceOk d (F80 d p b) ∧ 1 ≤ (F80 d p b).size ∧ (F80 d p b).size ≤ b.length := by
  unfold F80
  by_cases hk : (readS b).2.2.2 = 0
  · rw [if_neg (by simpa using hk)]
    obtain ⟨h1, h2, h3, h4, h5, h6⟩ := readS_facts hr hb hk
    generalize (readS b).1 = o at *
    generalize (readS b).2.1 = n at *
    generalize (readS b).2.2.1 = sz at *
    have hok := ok80_at d hd o h2.1 (by omega)
    unfold ok80 opOk at hok
    simp only [Bool.or_eq_true, Bool.and_eq_true, decide_eq_true_eq, Bool.not_eq_true', List.all_eq_true] at hok
    rcases hok with hok | ⟨⟨⟨⟨⟨⟨o1, o2⟩, o3⟩, o4⟩, o5⟩, o6⟩, o7⟩
    · omega
    refine ⟨⟨?_, ?_, ?_, ?_, not_empty o1, o2, o3, ?_, ?_⟩, h4, h5⟩
    · simp only; split <;> omega
    · simp only; split <;> omega
    · simp only
      intro ht
      split
      · simp
      · rw [List.length_map]
        rcases o6 with o6 | o6
        · rw [if_neg (by rw [o6]; simp)] at ht; omega
        · exact o6
    · simp only
      split
      · simp
      · rw [List.length_map]; exact o4
    · simp only
      intro a ha
      split at ha
      · rw [List.mem_singleton.1 ha]; exact .inr (.inl ⟨false, _, .inl rfl, rfl⟩)
      · obtain ⟨t, ht, rfl⟩ := List.mem_map.1 ha
        rcases o5 with o5 | o5
        · exact absurd o5 ‹_›
        exact (kind_ok (o5 t ht) n h3).1
    · simp only
      intro a ha
      split at ha
      · rw [List.mem_singleton.1 ha]
        show 0 ≤ (if d = 1 then o / 8 % 8 * 8 else o / 8 % 8) ∧ (if d = 1 then o / 8 % 8 * 8 else o / 8 % 8) ≤ 65535
        split <;> omega
      · obtain ⟨t, ht, rfl⟩ := List.mem_map.1 ha
        rcases o5 with o5 | o5
        · exact absurd o5 ‹_›
        exact (kind_ok (o5 t ht) n h3).2
  · rw [if_pos hk]
    have r0 := getD_range hr 0
    refine ⟨⟨by simp, by simp, by simp, by simp, not_empty (show 0 < (ByteArray.mk #[68, 66]).size by decide), by show greatB ⟨#[68, 66]⟩ = true; decide +kernel, by show inS ⟨#[68, 66]⟩ setsL = false; decide +kernel, ?_, ?_⟩, by simp, by simp; omega⟩
    · intro a ha
      rw [List.mem_singleton.1 ha]; exact .inr (.inl ⟨false, _, .inl rfl, rfl⟩)
    · intro a ha
      rw [List.mem_singleton.1 ha]
      show 0 ≤ b.getD 0 0 ∧ b.getD 0 0 ≤ 65535
      omega

/-- disasm.Stmts in the 8080's mnemonics: no condition on the bytes. -/
theorem stmts80 (d : Int) (hd : d = 0 ∨ d = 1) (p0 : Int) (hp : i64ok p0) (b : List Int) (v : Value) (w : World) (hT : Tab w) (hb : Byts w v b) :
    Calls Tryz.prog 9 #[.int .i64 d, .int .i64 p0, v] w (RStmts w (stmtsS (F80 d) d p0 b)) := by
  have hrg : ∀ x ∈ b, 0 ≤ x ∧ x ≤ 255 := by obtain ⟨_, _, _, _, _, h, _⟩ := hb; exact h
  refine stmts80_any d hd p0 hp b v w hT hb (fun h0 h1 x hx => ?_)
  obtain ⟨h2, h3, h4⟩ := sweep_all (F80 d) (PieceOk d) (fun p b hr hb _ _ => f80_ok d hd p b hr hb) _ p0 b hrg h0 h1 x hx
  exact good_of h2 (by omega) (by omega)
theorem fine80 (d : Int) (hd : d = 0 ∨ d = 1) (p : Int) (b : List Int) (hr : ∀ x ∈ b, 0 ≤ x ∧ x ≤ 255) : (∀ s ∈ (stmtsS (F80 d) d p b).1, Fine d s ∧ NumOk s) ∧ (stmtsS (F80 d) d p b).1.length ≤ 65537 :=
  fine_all (F80 d) d p b hr (fun p b hr hb _ _ => f80_ok d hd p b hr hb)
end

section
open Go.RowKit
set_option maxRecDepth 100000
set_option maxHeartbeats 2000000
set_option linter.unusedSimpArgs false
set_option linter.unusedVariables false

theorem Byts.alloc (w : World) (l : List Int) (hl : l.length ≤ 1000000) (hr : ∀ x ∈ l, 0 ≤ x ∧ x ≤ 255) (t : TypeId) (cs : Array Value) (hcs : cs = (l.map (Value.int .u8)).toArray) (n : Nat) (hn : n = l.length) :
    Byts (w.alloc (.cells cs t)) (.slice (some ⟨w.heap.size, 0, none⟩) n n) l := by
  subst hcs; subst hn
  refine ⟨_, _, rfl, Nat.le_refl _, by omega, hr, fun _ => ⟨_, _, rfl, by simp, fun j hj => ?_⟩⟩
  rw [World.cell?_alloc_at _ _ _ _ rfl]
  simp [List.getElem?_eq_getElem hj]

def aliveSt : List SR × Int := stmtsS (F80 0) 0 0 [195, 0, 0]
theorem alive_k : aliveSt.2 = 0 := by kernel_rfl
theorem alive_t : textS 0 aliveSt.1 = ⟨#[79, 82, 71, 32, 48, 10, 76, 48, 48, 48, 48, 58, 32, 74, 77, 80, 32, 76, 48, 48, 48, 48, 10]⟩ := by kernel_rfl

theorem alive_text (w : World) (hT : Tab w) : Calls Tryz.prog 12 #[.int .i64 0, .int .i64 0, .slice (some ⟨w.heap.size, 0, none⟩) 3 3] (w.alloc (.cells #[.int .u8 195, .int .u8 0, .int .u8 0] 5)) fun e w' =>
    e = .returned (.tuple #[.string ⟨#[79, 82, 71, 32, 48, 10, 76, 48, 48, 48, 48, 58, 32, 74, 77, 80, 32, 76, 48, 48, 48, 48, 10]⟩, .int .i64 0]) ∧ Ext (w.alloc (.cells #[.int .u8 195, .int .u8 0, .int .u8 0] 5)) w' := by
  have hrg : ∀ x ∈ ([195, 0, 0] : List Int), 0 ≤ x ∧ x ≤ 255 := by decide
  have hb := Byts.alloc w [195, 0, 0] (by simp) hrg 5 #[.int .u8 195, .int .u8 0, .int .u8 0] rfl 3 rfl
  have hT' := hT.ext ((Ext.refl w).alloc (.cells #[.int .u8 195, .int .u8 0, .int .u8 0] 5))
  have hS := stmts80 0 (.inl rfl) 0 (by unfold i64ok; omega) [195, 0, 0] _ _ hT' hb
  have hF := fine80 0 (.inl rfl) 0 [195, 0, 0] hrg
  have hk := alive_k
  have ht := alive_t
  unfold aliveSt at hk ht
  generalize stmtsS (F80 0) 0 0 [195, 0, 0] = r at *
  obtain ⟨l, k⟩ := r
  simp only at hk ht hF
  subst hk
  have := text_ok 0 0 (by omega) _ l _ hT' hS ⟨_, _, _, rfl⟩ (fun s hs => (hF.1 s hs).1) (fun s hs => (hF.1 s hs).2) (by omega)
  rw [ht] at this
  exact this

theorem alive_any (w : World) (hT : Tab w) : Calls Tryz.prog 8 #[] w (RBool w true) := by
  have HA := Lib.hid (alive_text w hT)
  clear hT
  go_enter Tryz.func8, Tryz.ntmps8
  go_wp2_with (go_at_call 12; refine HA.out.mono ?_; rintro e w1 ⟨rfl, hx1⟩)
  go_ret
  exact ⟨rfl, ((Ext.refl _).alloc _).trans hx1⟩
end
end Go.Proofs.YtnklmehphmidhaaGreatDoor
