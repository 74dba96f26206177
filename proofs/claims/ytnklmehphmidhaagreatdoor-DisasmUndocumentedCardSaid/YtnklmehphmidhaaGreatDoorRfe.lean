/- line.Right, on statements that are right. -/
import Derived.Test.YtnklmehphmidhaaGreatDoorRfd
namespace Go.Proofs.YtnklmehphmidhaaGreatDoor
open Go.RowKit
set_option maxRecDepth 100000
set_option maxHeartbeats 1000000
set_option linter.unusedSimpArgs false
set_option linter.unusedVariables false

/-- A statement that is right in a dialect. -/
structure Fine (d : Int) (s : SR) : Prop where
  lab : (s.label = ⟨#[]⟩ ∧ s.colon = false) ∨ (LabN s.label ∧ s.colon = true)
  opne : s.op.toList.isEmpty = false
  opg : greatB s.op = true
  opn : inS s.op setsL = false
  len : s.args.length ≤ 2
  args : ∀ a ∈ s.args, ARF d a

theorem known_any (d : Int) (hd : 0 ≤ d ∧ d ≤ 2) (w : World) : Calls Tryz.prog 31 #[.int .i64 d] w fun e w' => e = .returned (.bool true) ∧ w = w' := by
  obtain ⟨h0, h1⟩ := hd
  go_enter Tryz.func31, Tryz.ntmps31
  go_wp2
  go_ret
  exact ⟨ret_bool (by simp [*]), rfl⟩

theorem right14_bare (d : Int) (hd : 0 ≤ d ∧ d ≤ 2) (op : ByteArray) (l : List AR) (v : Value) (ho : op.toList.isEmpty = false) (hg : greatB op = true) (hn : inS op setsL = false) (hlen : l.length ≤ 2) (hl : ∀ a ∈ l, ARF d a) (w : World) (hT : Tab w) (hr : RdA w v l) :
    Calls Tryz.prog 14 #[.int .i64 d, .agg #[.string ⟨#[]⟩, .bool false, .string op, v]] w (RInt w .i64 0) := by
  obtain ⟨A, c, rfl, _⟩ := id hr
  have HR := Lib.hid hr; clear hr
  have HT := Lib.hid hT; clear hT
  have HG := Lib.hid hg; clear hg
  have HN := Lib.hid hn; clear hn
  have HL := Lib.hid hl; clear hl
  generalize hL : l.length = L at *
  have HLEN := Lib.hid hL; clear hL
  have hL32 : (L : Int) ≤ 2 := by omega
  have hmk : ∀ (fn : Fn) (first cap : Array Value) (w : World), (Instr.makeFunc fn first cap).run Tryz.prog w = .ok (.func fn first cap) w := fun _ _ _ _ => rfl
  go_enter Tryz.func14, Tryz.ntmps14
  go_wp2_with (first
    | (go_at_call 31; refine (known_any d hd _).mono ?_; rintro e w1 ⟨rfl, rfl⟩)
    | (go_at_call 33; refine (great_any op _).mono ?_; rw [HG.out]; rintro e w2 ⟨rfl, hx2⟩; have B0 := ((Blk.new w #[.int .i64 d] 3).alloc _).ext hx2; have B1 := (Blk.newAt _ (w.heap.size + 1) _ 31 (by simp)).ext hx2; have k0 := B0.cell; have k1 := B1.cell)
    | (go_at_call 34; refine (sets_any op _).mono ?_; rw [HN.out]; rintro e w3 ⟨rfl, hx3⟩; have k03 := (B0.ext hx3).cell; have k13 := (B1.ext hx3).cell))
  have HX : Hid (Ext w w3) := Lib.hid (((((Ext.refl _).alloc _).alloc _).trans hx2).trans hx3)
  have B03 := B0.ext hx3
  have B13 := B1.ext hx3
  go_quiet (fail)
  go_wp2_with (go_at_call 35; refine (contains35_any d l HL.out (by have := HLEN.out; omega) _ _ _ op _ (HR.out.ext (HX.out.drewN _)) (HT.out.ext (HX.out.drewN _)) ((B03.drewN _).cell 0) ((B13.drewN _).cell 2)).mono ?_; rintro e w4 ⟨rfl, hx4⟩)
  go_ret
  exact ⟨rfl, (HX.out.drewN _).trans hx4⟩

theorem LabN.ne {s : ByteArray} (h : LabN s) : s.toList.isEmpty = false := by
  have h1 := h.nm
  unfold nameB at h1
  simp only [Bool.and_eq_true, decide_eq_true_eq] at h1
  have h0 := h1.1.1
  rw [ByteArray.toList_eq, Bool.eq_false_iff]
  intro e
  rw [List.isEmpty_iff] at e
  have := congrArg List.length e
  rw [Array.length_toList] at this
  exact h0 this

theorem right14_lab (d : Int) (hd : 0 ≤ d ∧ d ≤ 2) (lab op : ByteArray) (l : List AR) (v : Value) (hlab : LabN lab) (ho : op.toList.isEmpty = false) (hg : greatB op = true) (hn : inS op setsL = false) (hlen : l.length ≤ 2) (hl : ∀ a ∈ l, ARF d a) (w : World) (hT : Tab w) (hr : RdA w v l) :
    Calls Tryz.prog 14 #[.int .i64 d, .agg #[.string lab, .bool true, .string op, v]] w (RInt w .i64 0) := by
  obtain ⟨A, c, rfl, _⟩ := id hr
  have HR := Lib.hid hr; clear hr
  have HT := Lib.hid hT; clear hT
  have HG := Lib.hid hg; clear hg
  have HN := Lib.hid hn; clear hn
  have HL := Lib.hid hl; clear hl
  have HP := Lib.hid (hlab.pl d)
  have hne := hlab.ne
  clear hlab
  generalize hL : l.length = L at *
  have HLEN := Lib.hid hL; clear hL
  have hL32 : (L : Int) ≤ 2 := by omega
  have hmk : ∀ (fn : Fn) (first cap : Array Value) (w : World), (Instr.makeFunc fn first cap).run Tryz.prog w = .ok (.func fn first cap) w := fun _ _ _ _ => rfl
  go_enter Tryz.func14, Tryz.ntmps14
  go_wp2_with (first
    | (go_at_call 31; refine (known_any d hd _).mono ?_; rintro e w1 ⟨rfl, rfl⟩)
    | (go_at_call 32; refine (plain32_any d lab _ (HT.out.ext (((Ext.refl _).alloc _).alloc _))).mono ?_; rw [HP.out]; rintro e w5 ⟨rfl, hx5⟩; have B05 := ((Blk.new w #[.int .i64 d] 3).alloc _).ext hx5; have B15 := (Blk.newAt _ (w.heap.size + 1) _ 31 (by simp)).ext hx5; have k05 := B05.cell; have k15 := B15.cell)
    | (go_at_call 33; refine (great_any op _).mono ?_; rw [HG.out]; rintro e w2 ⟨rfl, hx2⟩; have B0 := B05.ext hx2; have B1 := B15.ext hx2; have k0 := B0.cell; have k1 := B1.cell)
    | (go_at_call 34; refine (sets_any op _).mono ?_; rw [HN.out]; rintro e w3 ⟨rfl, hx3⟩; have k03 := (B0.ext hx3).cell; have k13 := (B1.ext hx3).cell))
  have HX : Hid (Ext w w3) := Lib.hid ((((((Ext.refl _).alloc _).alloc _).trans hx5).trans hx2).trans hx3)
  have B03 := B0.ext hx3
  have B13 := B1.ext hx3
  clear B0 B1 B05 B15 k05 k15 k0 k1
  go_region_held3 (fun W => W.cell? ⟨w.heap.size + 1, 1, none⟩ = some (.bool true) ∧ W.cell? ⟨w.heap.size + 1, 2, none⟩ = some (.string op)) (first | go_keep | (with_reducible exact ⟨hxa.cell (And.left ‹_ ∧ _›), hxa.cell (And.right ‹_ ∧ _›)⟩))
    (first
      | (go_at_call 34; refine (sets_any op _).mono ?_; rw [HN.out]; rintro e w6 ⟨rfl, hxa⟩; have hx6 := hxa))
  all_goals
    have HX6 : Hid (Ext w w6) := Lib.hid (HX.out.trans (((Ext.refl _).drew).trans hx6))
    have B06 := (B03.drew).ext hx6
    have B16 := (B13.drew).ext hx6
    have k06 := B06.cell
    have k16 := B16.cell
    clear hxa hx6
    go_wp2_with (go_at_call 35; refine (contains35_any d l HL.out (by have := HLEN.out; omega) _ _ _ op _ (HR.out.ext HX6.out) (HT.out.ext HX6.out) (B06.cell 0) (B16.cell 2)).mono ?_; rintro e w4 ⟨rfl, hx4⟩)
    go_ret
    exact ⟨rfl, HX6.out.trans hx4⟩

theorem right14_any (d : Int) (hd : 0 ≤ d ∧ d ≤ 2) (s : SR) (v : Value) (h : Fine d s) (w : World) (hT : Tab w) (hr : RdA w v s.args) :
    Calls Tryz.prog 14 #[.int .i64 d, .agg #[.string s.label, .bool s.colon, .string s.op, v]] w (RInt w .i64 0) := by
  obtain ⟨lab, col, op, args⟩ := s
  rcases h.lab with ⟨h1, h2⟩ | ⟨h1, h2⟩
  · simp only at h1 h2
    subst h1; subst h2
    exact right14_bare d hd op args v h.opne h.opg h.opn h.len h.args w hT hr
  · simp only at h1 h2
    subst h2
    exact right14_lab d hd lab op args v h1 h.opne h.opg h.opn h.len h.args w hT hr
end Go.Proofs.YtnklmehphmidhaaGreatDoor
