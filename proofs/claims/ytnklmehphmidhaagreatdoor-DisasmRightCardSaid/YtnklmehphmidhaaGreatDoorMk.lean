/- expr.Right, line.Right, on statements that are right. -/
import Derived.Test.YtnklmehphmidhaaGreatDoorMj
namespace Go.Proofs.YtnklmehphmidhaaGreatDoor
section
open Go.RowKit
set_option maxRecDepth 100000
set_option maxHeartbeats 1000000
set_option linter.unusedSimpArgs false
set_option linter.unusedVariables false

theorem Blk.newAt (w : World) (g : Nat) (cs : Array Value) (t : TypeId) (hg : g = w.heap.size) : Blk (w.alloc (.cells cs t)) g cs := hg ▸ Blk.new w cs t
theorem index189_nil (f : Value) (w : World) : Calls Tryz.prog 189 #[.slice none 0 0, f] w fun e w' => e = .returned (.int .i64 (-1)) ∧ w = w' := by
  go_enter Tryz.func189, Tryz.ntmps189
  go_wp2
  go_loop [8] (fun i => i = .int .i64 0) (fun _ => 0)
  case atStart => rfl
  case round =>
    obtain rfl := hrel
    go_wp2
    go_ret
    exact ⟨rfl, rfl⟩
theorem contains152_nil (f : Value) (w : World) : Calls Tryz.prog 152 #[.slice none 0 0, f] w fun e w' => e = .returned (.bool false) ∧ w = w' := by
  go_enter Tryz.func152, Tryz.ntmps152
  go_wp2_with (go_at_call 189; refine (index189_nil _ _).mono ?_; rintro e w1 ⟨rfl, rfl⟩)
  go_ret
  exact ⟨rfl, rfl⟩

theorem right110_num (n m : Int) (hm : 1 ≤ m) (w : World) : Calls Tryz.prog 110 #[.agg #[.string ⟨#[35]⟩, .int .u16 n, .string ⟨#[]⟩, .slice none 0 0], .int .i64 m] w (RBool w true) := by
  have h0 : (m == 0) = false := by simp; omega
  go_enter Tryz.func110, Tryz.ntmps110
  go_wp2_with (go_at_call 150; refine (binds_num _).mono ?_; rintro e w1 ⟨rfl, rfl⟩)
  go_quiet (fail)
  go_wp2_with (go_at_call 152; refine (contains152_nil _ _).mono ?_; rintro e w1 ⟨rfl, rfl⟩)
  all_goals
    go_ret
    exact ⟨rfl, (((Ext.refl _).alloc _).alloc _).drewN _⟩
theorem right61_num (n : Int) (w : World) : Calls Tryz.prog 61 #[.agg #[.string ⟨#[35]⟩, .int .u16 n, .string ⟨#[]⟩, .slice none 0 0]] w (RInt w .i64 0) := by
  go_enter Tryz.func61, Tryz.ntmps61
  go_wp2_with (go_at_call 110; refine (right110_num n 24 (by decide) _).mono ?_; rintro e w1 ⟨rfl, hx1⟩)
  go_ret
  exact ⟨rfl, ((Ext.refl _).alloc _).trans hx1⟩

/-- A label's name. -/
structure LabN (s : ByteArray) : Prop where
  nm : nameB s = true
  up : (upperS s).toList == s.toList
  op : inS s opsL = false
  pl : ∀ d, plainB d s = true

theorem right110_nam (s : ByteArray) (h : LabN s) (m : Int) (hm : 1 ≤ m) (w : World) : Calls Tryz.prog 110 #[.agg #[.string ⟨#[110]⟩, .int .u16 0, .string s, .slice none 0 0], .int .i64 m] w (RBool w true) := by
  have h0 : (m == 0) = false := by simp; omega
  have hsz := nameB_size h.nm
  have hu := h.up
  have HN := Lib.hid h.nm
  have HO := Lib.hid h.op
  clear h
  go_enter Tryz.func110, Tryz.ntmps110
  go_wp2_with (go_at_call 150; refine (binds_nam _).mono ?_; rintro e w1 ⟨rfl, rfl⟩)
  go_region_held3 (fun W => W.cell? ⟨w.heap.size, 0, none⟩ = some (.string ⟨#[110]⟩) ∧ W.cell? ⟨w.heap.size, 2, none⟩ = some (.string s)) (first | go_keep | (with_reducible exact ⟨hxa.cell (And.left ‹_ ∧ _›), hxa.cell (And.right ‹_ ∧ _›)⟩))
    (first
      | (go_at_call 53; refine (name53_any s _).mono ?_; rw [HN.out]; rintro e w2 ⟨rfl, rfl⟩)
      | (go_at_call 54; refine (upper_any s (by omega) _).mono ?_; rintro e w3 ⟨rfl, hxa⟩; have hx3 := hxa)
      | (go_at_call 151; refine (eword_no s HO.out _).mono ?_; rintro e w4 ⟨rfl, rfl⟩))
  all_goals
    have B0 : Blk w3 w.heap.size #[.string ⟨#[110]⟩, .int .u16 0, .string s, .slice none 0 0] := (((Blk.new w _ 39).alloc _).drew).ext hx3
    have B1 : Blk w3 (w.heap.size + 1) #[.int .i64 m] := ((Blk.newAt _ (w.heap.size + 1) _ 3 (by simp)).drew).ext hx3
    have k0 := B0.cell
    have k1 := B1.cell
    have HX := Lib.hid hx3
    clear hxa hx3
    go_wp2_with (go_at_call 152; refine (contains152_nil _ _).mono ?_; rintro e w1 ⟨rfl, rfl⟩)
  all_goals
    go_ret
    exact ⟨rfl, ((((Ext.refl _).alloc _).alloc _).drew).trans HX.out⟩
theorem right61_nam (s : ByteArray) (h : LabN s) (w : World) : Calls Tryz.prog 61 #[.agg #[.string ⟨#[110]⟩, .int .u16 0, .string s, .slice none 0 0]] w (RInt w .i64 0) := by
  have H := Lib.hid h; clear h
  go_enter Tryz.func61, Tryz.ntmps61
  go_wp2_with (go_at_call 110; refine (right110_nam s H.out 24 (by decide) _).mono ?_; rintro e w1 ⟨rfl, hx1⟩)
  go_ret
  exact ⟨rfl, ((Ext.refl _).alloc _).trans hx1⟩

theorem Tryz.info9 : (Tryz.prog.info? 9).map (fun i => (i.zero, i.size, i.bytes)) = some (some (.string ⟨#[]⟩), 1, 16) := by kernel_rfl
/-- v reads as the list l of strings (its capacity is left open). -/
def RdS (w : World) (v : Value) (l : List ByteArray) : Prop :=
  ∃ A c, v = .slice A l.length c ∧ l.length ≤ c ∧ (0 < l.length → ∃ b o, A = some ⟨b, o, none⟩ ∧ b < w.heap.size ∧ ∀ j x, l[j]? = some x → w.cell? ⟨b, o + j, none⟩ = some (.string x))
theorem RdS.ext {w w' : World} {v : Value} {l : List ByteArray} (h : RdS w v l) (hb : Ext w w') : RdS w' v l := by
  obtain ⟨A, c, hv, h1, h3⟩ := h
  refine ⟨A, c, hv, h1, fun hp => ?_⟩
  obtain ⟨b, o, hA, hlt, hc⟩ := h3 hp
  exact ⟨b, o, hA, Nat.lt_of_lt_of_le hlt hb.size, fun j x hx => hb.cell (hc j x hx)⟩
theorem RdS.of {w : World} {v : Value} {l : List ByteArray} (h : Strs w v l) : RdS w v l := by
  obtain ⟨A, c, hv, h1, _, h3⟩ := h
  exact ⟨A, c, hv, h1, h3⟩
theorem RdS.nil (w : World) : RdS w (.slice none 0 0) [] := RdS.of (Strs.nil w)
/-- A row of strings of one's own, read. -/
theorem RdS.own {w : World} {base n : Nat} {v : Value} {l : List ByteArray} (h : w.ownsRow base 9 1 v n (l.map Value.string)) (hn : n = l.length) : RdS w v l := by
  subst hn
  obtain ⟨h1, h2 | ⟨g, cap, cur, rfl, hb, hg, hcap, hm, hs, hx⟩⟩ := h
  · obtain ⟨rfl, hn⟩ := h2
    have : l = [] := List.eq_nil_of_length_eq_zero hn
    subst this
    exact RdS.nil w
  · refine ⟨_, cap, rfl, hcap, fun hp => ⟨g, 0, rfl, (Array.getElem?_eq_some_iff.1 hg).1, fun j x hx' => ?_⟩⟩
    have hj : j < l.length := by
      rcases Nat.lt_or_ge j l.length with h | h
      · exact h
      · rw [List.getElem?_eq_none h] at hx'; cases hx'
    have : (List.take (l.length * 1) cur.toList)[j]? = some (Value.string x) := by rw [hx]; simp [hx']
    rw [List.getElem?_take_of_lt (by omega)] at this
    simp only [Nat.zero_add, World.cell?, hg]
    simpa using this
def RRds (w : World) (l : List ByteArray) : Ending → World → Prop := fun e w' => ∃ v, e = .returned v ∧ RdS w' v l ∧ Ext w w'
theorem RRds.mk {w w' : World} {v : Value} {l : List ByteArray} (hs : RdS w' v l) (he : Ext w w') : RRds w l (.returned v) w' := ⟨v, rfl, hs, he⟩
theorem names_num (n : Int) (w : World) : Calls Tryz.prog 63 #[.agg #[.string ⟨#[35]⟩, .int .u16 n, .string ⟨#[]⟩, .slice none 0 0]] w (RRds w []) := by
  go_enter Tryz.func63, Tryz.ntmps63
  go_wp2
  go_loop [2, 16] (fun o i => i = .int .i64 0 ∧ o = .slice none 0 0) (fun _ _ => 0)
  case atStart => exact ⟨rfl, rfl⟩
  case round =>
    obtain ⟨rfl, rfl⟩ := hrel
    go_wp2
    go_ret
    exact RRds.mk (RdS.nil _) ((Ext.refl _).alloc _)
theorem heap_new_at (w : World) (g : Nat) (o : Obj) (hg : g = w.heap.size) : (w.alloc o).heap[g]? = some o := hg ▸ heap_alloc_new w o
theorem names_nam (s : ByteArray) (w : World) : Calls Tryz.prog 63 #[.agg #[.string ⟨#[110]⟩, .int .u16 0, .string s, .slice none 0 0]] w (RRds w [s]) := by
  obtain ⟨i0, hi0, hz0, hz1, hz2⟩ := info_parts Tryz.info9
  have hown := World.ownsRow_nil ((w.alloc (.cells #[.string ⟨#[110]⟩, .int .u16 0, .string s, .slice none 0 0] 39))) w.heap.size 9 1
  go_enter Tryz.func63, Tryz.ntmps63
  go_wp2_with (at_builtin; refine wpList_append_own_at _ rfl _ _ _ rfl w.heap.size 9 i0 _ 1 16 Tryz.underlying79 hi0 hz0 hz1 hz2 rfl (by omega) (.slice none 0 0) 0 [] (by rfl) (hown.alloc _) ⟨w.heap.size + 1, 0, none⟩ 1 1 [.string s] (by rfl) (by rfl) (World.news_of_block (cs := #[.string s]) (t := 9) (fr := (0, 0)) (heap_new_at _ _ _ (by simp))) (by simp [Value.oneCell']) (by unfold maxLen; omega) (by omega) (by simp; omega) ?_; intro v7 w7 hown7 hgrow _ _; have hB := ((Blk.new w #[.string ⟨#[110]⟩, .int .u16 0, .string s, .slice none 0 0] 39).alloc (.cells #[.string s] 9)).grown hgrow (by simp [Value.ownBlock]); have k := hB.cell; have HO := Lib.hid (RdS.own (l := [s]) hown7 rfl); have HX := Lib.hid (ext_grown (((Ext.refl w).alloc _).alloc _) hgrow (by simp [Value.ownBlock])); clear hown7 hgrow)
  clear hown
  go_loop [2, 16] (fun o i => i = .int .i64 0 ∧ o = v7) (fun _ _ => 0)
  case atStart => exact ⟨rfl, rfl⟩
  case round =>
    obtain ⟨rfl, rfl⟩ := hrel
    go_wp2
    go_ret
    exact RRds.mk HO.out HX.out
end

section
open Go.RowKit
set_option maxRecDepth 100000
set_option maxHeartbeats 1000000
set_option linter.unusedSimpArgs false
set_option linter.unusedVariables false

theorem clos64 (d : Int) (s : ByteArray) (g : Nat) (w : World) (hT : Tab w) (hc : w.cell? ⟨g, 0, none⟩ = some (.int .i64 d)) (hp : plainB d s = true) :
    Calls Tryz.prog 64 #[.string s, .pointer (some ⟨g, 0, none⟩)] w (RBool w false) := by
  have HT := Lib.hid hT; clear hT
  have HP := Lib.hid hp; clear hp
  go_enter Tryz.func64, Tryz.ntmps64
  go_wp2_with (go_at_call 32; refine (plain32_any d s _ HT.out).mono ?_; rw [HP.out]; rintro e w1 ⟨rfl, hx1⟩)
  go_ret
  exact ⟨rfl, hx1⟩

theorem index111_any (d : Int) (l : List ByteArray) (v : Value) (g : Nat) (w : World) (hT : Tab w) (hc : w.cell? ⟨g, 0, none⟩ = some (.int .i64 d)) (hs : RdS w v l) (hl : l.length ≤ 1000) (hp : ∀ s ∈ l, plainB d s = true) :
    Calls Tryz.prog 111 #[v, .func (.func 64) #[] #[.pointer (some ⟨g, 0, none⟩)]] w fun e w' => e = .returned (.int .i64 (-1)) ∧ Ext w w' := by
  obtain ⟨A, c, rfl, hcap, h⟩ := hs
  generalize hL : l.length = L at *
  have HL := Lib.hid hL; clear hL
  have HH := Lib.hid h; clear h
  have HT := Lib.hid hT; clear hT
  have HP := Lib.hid hp; clear hp
  have HC := Lib.hid hc; clear hc
  have eg := enters_of Tryz.func64 (by kernel_rfl) rfl
  go_enter Tryz.func111, Tryz.ntmps111
  go_wp2
  go_loopw [8] (fun i wr => ∃ k, k ≤ L ∧ i = .int .i64 (k : Nat) ∧ Ext w wr) (fun i _ => L - (intOf i).toNat)
  case atStart => exact ⟨0, by omega, rfl, Ext.refl _⟩
  case round =>
    obtain ⟨k, hk, rfl, E⟩ := hrel
    by_cases hlt : k < L
    · obtain ⟨b, o, rfl, hb, hcell⟩ := HH.out (by omega)
      have hx := getD_lt4 HL.out hlt
      have ka := E.cell (hcell k _ hx)
      have HM : Hid (l.getD k ⟨#[]⟩ ∈ l) := Lib.hid (List.mem_of_getElem? hx)
      clear hcell hx
      generalize hka : l.getD k ⟨#[]⟩ = a at *
      clear hka
      go_wp2_with (go_at_call 64; refine (clos64 d a g _ (HT.out.ext E) (E.cell HC.out) (HP.out _ HM.out)).mono ?_; rintro e w1 ⟨rfl, hx1⟩)
      go_roundw
      case rel => exact ⟨k + 1, by omega, by go_num, E.trans ‹_›⟩
      case measure => simp [intOf]; omega
    · obtain rfl : k = L := by omega
      go_wp2
      go_ret
      exact ⟨rfl, E⟩
theorem contains62_any (d : Int) (l : List ByteArray) (v : Value) (g : Nat) (w : World) (hT : Tab w) (hc : w.cell? ⟨g, 0, none⟩ = some (.int .i64 d)) (hs : RdS w v l) (hl : l.length ≤ 1000) (hp : ∀ s ∈ l, plainB d s = true) :
    Calls Tryz.prog 62 #[v, .func (.func 64) #[] #[.pointer (some ⟨g, 0, none⟩)]] w (RBool w false) := by
  obtain ⟨A, c, rfl, _⟩ := id hs
  have HT := Lib.hid hT; clear hT
  have HS := Lib.hid hs; clear hs
  have HC := Lib.hid hc; clear hc
  have HP := Lib.hid hp; clear hp
  go_enter Tryz.func62, Tryz.ntmps62
  go_wp2_with (go_at_call 111; refine (index111_any d l _ g _ HT.out HC.out HS.out hl HP.out).mono ?_; rintro e w1 ⟨rfl, hx1⟩)
  go_ret
  exact ⟨rfl, hx1⟩
end

section
open Go.RowKit
set_option maxRecDepth 100000
set_option maxHeartbeats 1000000
set_option linter.unusedSimpArgs false
set_option linter.unusedVariables false

theorem right37_word (d : Int) (op s : ByteArray) (hs : s.toList.isEmpty = false) (w : World) (hT : Tab w) :
    Calls Tryz.prog 37 #[.int .i64 d, .string op, .agg #[.string s, .string ⟨#[]⟩, .bool false, .bool false, .string ⟨#[]⟩, .int .u16 0, .string ⟨#[]⟩, .slice none 0 0]] w (RBool w (wordB d s)) := by
  have HT := Lib.hid hT; clear hT
  go_enter Tryz.func37, Tryz.ntmps37
  go_wp2_with (first
    | (go_at_call 57; refine (same_any ⟨#[]⟩ ⟨#[]⟩ 0 0 ⟨#[]⟩ ⟨#[]⟩ _).mono ?_; rw [show sameE ⟨#[]⟩ ⟨#[]⟩ 0 0 ⟨#[]⟩ ⟨#[]⟩ = true by decide +kernel]; rintro e w1 ⟨rfl, hx1⟩; have B0 := ((Blk.new w #[.int .i64 d] 3).alloc _).ext hx1; have B1 := (Blk.newAt _ (w.heap.size + 1) _ 41 (by simp)).ext hx1; have k0 := B0.cell; have k1 := B1.cell)
    | (go_at_call 58; refine (word58_any d s _ (HT.out.ext (((Ext.refl _).alloc _).alloc _ |>.trans hx1))).mono ?_; rintro e w2 ⟨rfl, hx2⟩))
  go_ret
  exact ⟨rfl, ((((Ext.refl _).alloc _).alloc _).trans hx1).trans hx2⟩

theorem right37_num0 (d n : Int) (mem : Bool) (op : ByteArray) (hm : mem = true) (hd : (d == 0) = true) (w : World) :
    Calls Tryz.prog 37 #[.int .i64 d, .string op, .agg #[.string ⟨#[]⟩, .string ⟨#[]⟩, .bool false, .bool mem, .string ⟨#[35]⟩, .int .u16 n, .string ⟨#[]⟩, .slice none 0 0]] w (RBool w false) := by
  subst hm
  have HS : Hid (sameE ⟨#[35]⟩ ⟨#[]⟩ n 0 ⟨#[]⟩ ⟨#[]⟩ = false) := Lib.hid (by unfold sameE; rw [show ((ByteArray.mk #[35]).toList == (ByteArray.mk #[]).toList) = false by decide +kernel]; rfl)
  go_enter Tryz.func37, Tryz.ntmps37
  go_wp2_with (go_at_call 57; refine (same_any ⟨#[35]⟩ ⟨#[]⟩ n 0 ⟨#[]⟩ ⟨#[]⟩ _).mono ?_; rw [HS.out]; rintro e w1 ⟨rfl, hx1⟩; have B0 := ((Blk.new w #[.int .i64 d] 3).alloc _).ext hx1; have B1 := (Blk.newAt _ (w.heap.size + 1) _ 41 (by simp)).ext hx1; have k0 := B0.cell; have k1 := B1.cell)
  go_ret
  exact ⟨rfl, (((Ext.refl _).alloc _).alloc _).trans hx1⟩
theorem right37_num1 (d n : Int) (mem : Bool) (op : ByteArray) (hm : mem = false ∨ (d == 0) = false) (w : World) (hT : Tab w) :
    Calls Tryz.prog 37 #[.int .i64 d, .string op, .agg #[.string ⟨#[]⟩, .string ⟨#[]⟩, .bool false, .bool mem, .string ⟨#[35]⟩, .int .u16 n, .string ⟨#[]⟩, .slice none 0 0]] w (RBool w true) := by
  have HS : Hid (sameE ⟨#[35]⟩ ⟨#[]⟩ n 0 ⟨#[]⟩ ⟨#[]⟩ = false) := Lib.hid (by unfold sameE; rw [show ((ByteArray.mk #[35]).toList == (ByteArray.mk #[]).toList) = false by decide +kernel]; rfl)
  have HT := Lib.hid hT; clear hT
  have hmk : ∀ (fn : Fn) (first cap : Array Value) (w : World), (Instr.makeFunc fn first cap).run Tryz.prog w = .ok (.func fn first cap) w := fun _ _ _ _ => rfl
  cases mem with
  | false =>
    clear hm
    go_enter Tryz.func37, Tryz.ntmps37
    go_wp2_with (first
      | (go_at_call 57; refine (same_any ⟨#[35]⟩ ⟨#[]⟩ n 0 ⟨#[]⟩ ⟨#[]⟩ _).mono ?_; rw [HS.out]; rintro e w1 ⟨rfl, hx1⟩; have B0 := ((Blk.new w #[.int .i64 d] 3).alloc _).ext hx1; have B1 := (Blk.newAt _ (w.heap.size + 1) _ 41 (by simp)).ext hx1; have k0 := B0.cell; have k1 := B1.cell)
      | (go_at_call 61; refine (right61_num n _).mono ?_; rintro e w2 ⟨rfl, hx2⟩; have k02 := (B0.ext hx2).cell; have k12 := (B1.ext hx2).cell)
      | (go_at_call 63; refine (names_num n _).mono ?_; rintro e w3 ⟨v3, rfl, hr3, hx3⟩; have HR := Lib.hid hr3; clear hr3; have k03 := ((B0.ext hx2).ext hx3).cell; have HC := Lib.hid (k03 0))
      | (go_at_call 62; refine (contains62_any d [] _ _ _ (HT.out.ext ((((Ext.refl _).alloc _).alloc _ |>.trans hx1).trans (hx2.trans hx3))) HC.out HR.out (by simp) (by simp)).mono ?_; rintro e w4 ⟨rfl, hx4⟩))
    go_ret
    exact ⟨rfl, (((((Ext.refl _).alloc _).alloc _ |>.trans hx1).trans hx2).trans hx3).trans hx4⟩
  | true =>
    have hd : (d == 0) = false := by simpa using hm
    clear hm
    go_enter Tryz.func37, Tryz.ntmps37
    go_wp2_with (first
      | (go_at_call 57; refine (same_any ⟨#[35]⟩ ⟨#[]⟩ n 0 ⟨#[]⟩ ⟨#[]⟩ _).mono ?_; rw [HS.out]; rintro e w1 ⟨rfl, hx1⟩; have B0 := ((Blk.new w #[.int .i64 d] 3).alloc _).ext hx1; have B1 := (Blk.newAt _ (w.heap.size + 1) _ 41 (by simp)).ext hx1; have k0 := B0.cell; have k1 := B1.cell)
      | (go_at_call 61; refine (right61_num n _).mono ?_; rintro e w2 ⟨rfl, hx2⟩; have k02 := (B0.ext hx2).cell; have k12 := (B1.ext hx2).cell)
      | (go_at_call 63; refine (names_num n _).mono ?_; rintro e w3 ⟨v3, rfl, hr3, hx3⟩; have HR := Lib.hid hr3; clear hr3; have k03 := ((B0.ext hx2).ext hx3).cell; have HC := Lib.hid (k03 0))
      | (go_at_call 62; refine (contains62_any d [] _ _ _ (HT.out.ext ((((Ext.refl _).alloc _).alloc _ |>.trans hx1).trans (hx2.trans hx3))) HC.out HR.out (by simp) (by simp)).mono ?_; rintro e w4 ⟨rfl, hx4⟩))
    go_ret
    exact ⟨rfl, (((((Ext.refl _).alloc _).alloc _ |>.trans hx1).trans hx2).trans hx3).trans hx4⟩
theorem right37_nam (d : Int) (op s : ByteArray) (h : LabN s) (w : World) (hT : Tab w) :
    Calls Tryz.prog 37 #[.int .i64 d, .string op, .agg #[.string ⟨#[]⟩, .string ⟨#[]⟩, .bool false, .bool false, .string ⟨#[110]⟩, .int .u16 0, .string s, .slice none 0 0]] w (RBool w true) := by
  have HS : Hid (sameE ⟨#[110]⟩ ⟨#[]⟩ 0 0 s ⟨#[]⟩ = false) := Lib.hid (by unfold sameE; rw [show ((ByteArray.mk #[110]).toList == (ByteArray.mk #[]).toList) = false by decide +kernel]; rfl)
  have HT := Lib.hid hT; clear hT
  have HL := Lib.hid h; clear h
  have hmk : ∀ (fn : Fn) (first cap : Array Value) (w : World), (Instr.makeFunc fn first cap).run Tryz.prog w = .ok (.func fn first cap) w := fun _ _ _ _ => rfl
  go_enter Tryz.func37, Tryz.ntmps37
  go_wp2_with (first
    | (go_at_call 57; refine (same_any ⟨#[110]⟩ ⟨#[]⟩ 0 0 s ⟨#[]⟩ _).mono ?_; rw [HS.out]; rintro e w1 ⟨rfl, hx1⟩; have B0 := ((Blk.new w #[.int .i64 d] 3).alloc _).ext hx1; have B1 := (Blk.newAt _ (w.heap.size + 1) _ 41 (by simp)).ext hx1; have k0 := B0.cell; have k1 := B1.cell)
    | (go_at_call 61; refine (right61_nam s HL.out _).mono ?_; rintro e w2 ⟨rfl, hx2⟩; have k02 := (B0.ext hx2).cell; have k12 := (B1.ext hx2).cell)
    | (go_at_call 63; refine (names_nam s _).mono ?_; rintro e w3 ⟨v3, rfl, hr3, hx3⟩; have HR := Lib.hid hr3; clear hr3; have k03 := ((B0.ext hx2).ext hx3).cell; have HC := Lib.hid (k03 0))
    | (go_at_call 62; refine (contains62_any d [s] _ _ _ (HT.out.ext ((((Ext.refl _).alloc _).alloc _ |>.trans hx1).trans (hx2.trans hx3))) HC.out HR.out (by simp) (by intro y hy; rw [List.mem_singleton.1 hy]; exact HL.out.pl d)).mono ?_; rintro e w4 ⟨rfl, hx4⟩))
  go_ret
  exact ⟨rfl, (((((Ext.refl _).alloc _).alloc _ |>.trans hx1).trans hx2).trans hx3).trans hx4⟩
end

section
open Go.RowKit
set_option maxRecDepth 100000
set_option maxHeartbeats 1000000
set_option linter.unusedSimpArgs false
set_option linter.unusedVariables false

def wordA (s : ByteArray) : AR := ⟨s, false, ⟨#[]⟩, 0, ⟨#[]⟩⟩
/-- An operand that is right in a dialect. -/
def ARF (d : Int) (a : AR) : Prop := (∃ s, s.toList.isEmpty = false ∧ wordB d s = true ∧ a = wordA s) ∨ (∃ m n, (m = false ∨ (d == 0) = false) ∧ a = numA m n) ∨ (∃ s, LabN s ∧ a = nameA s)

theorem right37_any (d : Int) (op : ByteArray) (a : AR) (h : ARF d a) (w : World) (hT : Tab w) :
    Calls Tryz.prog 37 #[.int .i64 d, .string op, .agg #[.string a.word, .string ⟨#[]⟩, .bool false, .bool a.mem, .string a.op, .int .u16 a.n, .string a.name, .slice none 0 0]] w (RBool w true) := by
  rcases h with ⟨s, hs, hw, rfl⟩ | ⟨m, n, hm, rfl⟩ | ⟨s, hs, rfl⟩
  · have := right37_word d op s hs w hT
    rw [hw] at this
    exact this
  · exact right37_num1 d n m op hm w hT
  · exact right37_nam d op s hs w hT

/-- v reads as the operands l. -/
def RdA (w : World) (v : Value) (l : List AR) : Prop :=
  ∃ A c, v = .slice A l.length c ∧ (0 < l.length → ∃ b o, A = some ⟨b, o, none⟩ ∧ b < w.heap.size ∧ ∀ (k : Nat) a (j : Nat) x, l[k]? = some a → (AR.cells a)[j]? = some x → w.cell? ⟨b, o + k * 8 + j, none⟩ = some x)
theorem RdA.ext {w w' : World} {v : Value} {l : List AR} (h : RdA w v l) (hb : Ext w w') : RdA w' v l := by
  obtain ⟨A, c, hv, h3⟩ := h
  refine ⟨A, c, hv, fun hp => ?_⟩
  obtain ⟨b, o, hA, hlt, hc⟩ := h3 hp
  exact ⟨b, o, hA, Nat.lt_of_lt_of_le hlt hb.size, fun k a j x hx hj => hb.cell (hc k a j x hx hj)⟩
theorem RdA.args {w : World} {base : Nat} {v : Value} {l : List AR} (h : Args w base v l) : RdA w v l := by
  obtain ⟨h1, h2 | ⟨g, cap, cur, rfl, hb, hg, hcap, hm, hs, hx⟩⟩ := id h
  · obtain ⟨rfl, hn⟩ := h2
    exact ⟨none, 0, by rw [hn], fun hp => absurd hp (by omega)⟩
  · refine ⟨_, cap, rfl, fun hp => ⟨g, 0, rfl, (Array.getElem?_eq_some_iff.1 hg).1, fun k a j x hk hj => ?_⟩⟩
    have hj8 : j < 8 := by
      rcases Nat.lt_or_ge j 8 with h | h
      · exact h
      · rw [List.getElem?_eq_none (by simpa [AR.cells] using h)] at hj; cases hj
    rw [Nat.zero_add]
    exact own_cell h (by rw [flatMap_at AR.cells 8 (fun _ => rfl) l k j a hk hj8]; exact hj)

theorem clos36 (d : Int) (a : AR) (h : ARF d a) (gd gs : Nat) (op : ByteArray) (w : World) (hT : Tab w) (hc : w.cell? ⟨gd, 0, none⟩ = some (.int .i64 d)) (hs : w.cell? ⟨gs, 2, none⟩ = some (.string op)) :
    Calls Tryz.prog 36 #[.agg #[.string a.word, .string ⟨#[]⟩, .bool false, .bool a.mem, .string a.op, .int .u16 a.n, .string a.name, .slice none 0 0], .pointer (some ⟨gd, 0, none⟩), .pointer (some ⟨gs, 0, none⟩)] w (RBool w false) := by
  have HT := Lib.hid hT; clear hT
  have H := Lib.hid h; clear h
  have hd1 := World.block_lt_of_cell? w _ hc
  have hs1 := World.block_lt_of_cell? w _ hs
  go_enter Tryz.func36, Tryz.ntmps36
  go_wp2_with (go_at_call 37; refine (right37_any d op a H.out _ (HT.out.ext ((Ext.refl _).alloc _))).mono ?_; rintro e w1 ⟨rfl, hx1⟩)
  go_ret
  exact ⟨rfl, ((Ext.refl _).alloc _).trans hx1⟩

theorem index56_any (d : Int) (l : List AR) (hl : ∀ a ∈ l, ARF d a) (hlen : l.length ≤ 1000) (v : Value) (gd gs : Nat) (op : ByteArray) (w : World) (hr : RdA w v l) (hT : Tab w) (hc : w.cell? ⟨gd, 0, none⟩ = some (.int .i64 d)) (hs : w.cell? ⟨gs, 2, none⟩ = some (.string op)) :
    Calls Tryz.prog 56 #[v, .func (.func 36) #[] #[.pointer (some ⟨gd, 0, none⟩), .pointer (some ⟨gs, 0, none⟩)]] w fun e w' => e = .returned (.int .i64 (-1)) ∧ Ext w w' := by
  obtain ⟨A, c, rfl, h⟩ := hr
  generalize hL : l.length = L at *
  have HL := Lib.hid hL; clear hL
  have HH := Lib.hid h; clear h
  have HT := Lib.hid hT; clear hT
  have HP := Lib.hid hl; clear hl
  have HC := Lib.hid hc; clear hc
  have HS := Lib.hid hs; clear hs
  go_enter Tryz.func56, Tryz.ntmps56
  go_wp2
  go_loopw [8] (fun i wr => ∃ k, k ≤ L ∧ i = .int .i64 (k : Nat) ∧ Ext w wr) (fun i _ => L - (intOf i).toNat)
  case atStart => exact ⟨0, by omega, rfl, Ext.refl _⟩
  case round =>
    obtain ⟨k, hk, rfl, E⟩ := hrel
    by_cases hlt : k < L
    · obtain ⟨b, o, rfl, hb, hcell⟩ := HH.out (by omega)
      obtain ⟨a, ha⟩ : ∃ a, l[k]? = some a := ⟨_, List.getElem?_eq_getElem (by rw [HL.out]; exact hlt)⟩
      have k0 := E.cell (hcell k a 0 _ ha rfl)
      have k1 := E.cell (hcell k a 1 _ ha rfl)
      have k2 := E.cell (hcell k a 2 _ ha rfl)
      have k3 := E.cell (hcell k a 3 _ ha rfl)
      have k4 := E.cell (hcell k a 4 _ ha rfl)
      have k5 := E.cell (hcell k a 5 _ ha rfl)
      have k6 := E.cell (hcell k a 6 _ ha rfl)
      have k7 := E.cell (hcell k a 7 _ ha rfl)
      rw [Nat.add_zero] at k0
      have HM : Hid (a ∈ l) := Lib.hid (List.mem_of_getElem? ha)
      clear hcell ha
      go_wp2_with (go_at_call 36; refine (clos36 d a (HP.out _ HM.out) gd gs op _ (HT.out.ext E) (E.cell HC.out) (E.cell HS.out)).mono ?_; rintro e w1 ⟨rfl, hx1⟩)
      go_roundw
      case rel => exact ⟨k + 1, by omega, by go_num, E.trans ‹_›⟩
      case measure => simp [intOf]; omega
    · obtain rfl : k = L := by omega
      go_wp2
      go_ret
      exact ⟨rfl, E⟩
theorem contains35_any (d : Int) (l : List AR) (hl : ∀ a ∈ l, ARF d a) (hlen : l.length ≤ 1000) (v : Value) (gd gs : Nat) (op : ByteArray) (w : World) (hr : RdA w v l) (hT : Tab w) (hc : w.cell? ⟨gd, 0, none⟩ = some (.int .i64 d)) (hs : w.cell? ⟨gs, 2, none⟩ = some (.string op)) :
    Calls Tryz.prog 35 #[v, .func (.func 36) #[] #[.pointer (some ⟨gd, 0, none⟩), .pointer (some ⟨gs, 0, none⟩)]] w (RBool w false) := by
  obtain ⟨A, c, rfl, h⟩ := id hr
  have HR := Lib.hid hr; clear hr h
  have HT := Lib.hid hT; clear hT
  have HP := Lib.hid hl; clear hl
  have HC := Lib.hid hc; clear hc
  have HS := Lib.hid hs; clear hs
  go_enter Tryz.func35, Tryz.ntmps35
  go_wp2_with (go_at_call 56; refine (index56_any d l HP.out hlen _ gd gs op _ HR.out HT.out HC.out HS.out).mono ?_; rintro e w1 ⟨rfl, hx1⟩)
  go_ret
  exact ⟨rfl, hx1⟩
end

section
open Go.RowKit
set_option maxRecDepth 100000
set_option maxHeartbeats 1000000
set_option linter.unusedSimpArgs false
set_option linter.unusedVariables false

/-- A statement that is right in a dialect. -/
structure Fine (d : Int) (s : SR) : Prop where
  lab : (s.label = ⟨#[]⟩ ∧ s.colon = false) ∨ (LabN s.label ∧ s.colon = true)
  opne : s.op.toList.isEmpty = false
  opg : greatB s.op = true
  opn : inS s.op setsL = false
  len : s.args.length ≤ 2
  args : ∀ a ∈ s.args, ARF d a

theorem known_any (d : Int) (hd : 0 ≤ d ∧ d ≤ 2) (w : World) : Calls Tryz.prog 31 #[.int .i64 d] w fun e w' => e = .returned (.bool true) ∧ w = w' := by
  obtain ⟨h0, h1⟩ := hd
  go_enter Tryz.func31, Tryz.ntmps31
  go_wp2
  go_ret
  exact ⟨ret_bool (by simp [*]), rfl⟩

theorem right14_bare (d : Int) (hd : 0 ≤ d ∧ d ≤ 2) (op : ByteArray) (l : List AR) (v : Value) (ho : op.toList.isEmpty = false) (hg : greatB op = true) (hn : inS op setsL = false) (hlen : l.length ≤ 2) (hl : ∀ a ∈ l, ARF d a) (w : World) (hT : Tab w) (hr : RdA w v l) :
    Calls Tryz.prog 14 #[.int .i64 d, .agg #[.string ⟨#[]⟩, .bool false, .string op, v]] w (RInt w .i64 0) := by
  obtain ⟨A, c, rfl, _⟩ := id hr
  have HR := Lib.hid hr; clear hr
  have HT := Lib.hid hT; clear hT
  have HG := Lib.hid hg; clear hg
  have HN := Lib.hid hn; clear hn
  have HL := Lib.hid hl; clear hl
  generalize hL : l.length = L at *
  have HLEN := Lib.hid hL; clear hL
  have hL32 : (L : Int) ≤ 2 := by omega
  have hmk : ∀ (fn : Fn) (first cap : Array Value) (w : World), (Instr.makeFunc fn first cap).run Tryz.prog w = .ok (.func fn first cap) w := fun _ _ _ _ => rfl
  go_enter Tryz.func14, Tryz.ntmps14
  go_wp2_with (first
    | (go_at_call 31; refine (known_any d hd _).mono ?_; rintro e w1 ⟨rfl, rfl⟩)
    | (go_at_call 33; refine (great_any op _).mono ?_; rw [HG.out]; rintro e w2 ⟨rfl, hx2⟩; have B0 := ((Blk.new w #[.int .i64 d] 3).alloc _).ext hx2; have B1 := (Blk.newAt _ (w.heap.size + 1) _ 31 (by simp)).ext hx2; have k0 := B0.cell; have k1 := B1.cell)
    | (go_at_call 34; refine (sets_any op _).mono ?_; rw [HN.out]; rintro e w3 ⟨rfl, hx3⟩; have k03 := (B0.ext hx3).cell; have k13 := (B1.ext hx3).cell))
  have HX : Hid (Ext w w3) := Lib.hid (((((Ext.refl _).alloc _).alloc _).trans hx2).trans hx3)
  have B03 := B0.ext hx3
  have B13 := B1.ext hx3
  go_quiet (fail)
  go_wp2_with (go_at_call 35; refine (contains35_any d l HL.out (by have := HLEN.out; omega) _ _ _ op _ (HR.out.ext (HX.out.drewN _)) (HT.out.ext (HX.out.drewN _)) ((B03.drewN _).cell 0) ((B13.drewN _).cell 2)).mono ?_; rintro e w4 ⟨rfl, hx4⟩)
  go_ret
  exact ⟨rfl, (HX.out.drewN _).trans hx4⟩

theorem LabN.ne {s : ByteArray} (h : LabN s) : s.toList.isEmpty = false := by
  have h1 := h.nm
  unfold nameB at h1
  simp only [Bool.and_eq_true, decide_eq_true_eq] at h1
  have h0 := h1.1.1
  rw [ByteArray.toList_eq, Bool.eq_false_iff]
  intro e
  rw [List.isEmpty_iff] at e
  have := congrArg List.length e
  rw [Array.length_toList] at this
  exact h0 this

theorem right14_lab (d : Int) (hd : 0 ≤ d ∧ d ≤ 2) (lab op : ByteArray) (l : List AR) (v : Value) (hlab : LabN lab) (ho : op.toList.isEmpty = false) (hg : greatB op = true) (hn : inS op setsL = false) (hlen : l.length ≤ 2) (hl : ∀ a ∈ l, ARF d a) (w : World) (hT : Tab w) (hr : RdA w v l) :
    Calls Tryz.prog 14 #[.int .i64 d, .agg #[.string lab, .bool true, .string op, v]] w (RInt w .i64 0) := by
  obtain ⟨A, c, rfl, _⟩ := id hr
  have HR := Lib.hid hr; clear hr
  have HT := Lib.hid hT; clear hT
  have HG := Lib.hid hg; clear hg
  have HN := Lib.hid hn; clear hn
  have HL := Lib.hid hl; clear hl
  have HP := Lib.hid (hlab.pl d)
  have hne := hlab.ne
  clear hlab
  generalize hL : l.length = L at *
  have HLEN := Lib.hid hL; clear hL
  have hL32 : (L : Int) ≤ 2 := by omega
  have hmk : ∀ (fn : Fn) (first cap : Array Value) (w : World), (Instr.makeFunc fn first cap).run Tryz.prog w = .ok (.func fn first cap) w := fun _ _ _ _ => rfl
  go_enter Tryz.func14, Tryz.ntmps14
  go_wp2_with (first
    | (go_at_call 31; refine (known_any d hd _).mono ?_; rintro e w1 ⟨rfl, rfl⟩)
    | (go_at_call 32; refine (plain32_any d lab _ (HT.out.ext (((Ext.refl _).alloc _).alloc _))).mono ?_; rw [HP.out]; rintro e w5 ⟨rfl, hx5⟩; have B05 := ((Blk.new w #[.int .i64 d] 3).alloc _).ext hx5; have B15 := (Blk.newAt _ (w.heap.size + 1) _ 31 (by simp)).ext hx5; have k05 := B05.cell; have k15 := B15.cell)
    | (go_at_call 33; refine (great_any op _).mono ?_; rw [HG.out]; rintro e w2 ⟨rfl, hx2⟩; have B0 := B05.ext hx2; have B1 := B15.ext hx2; have k0 := B0.cell; have k1 := B1.cell)
    | (go_at_call 34; refine (sets_any op _).mono ?_; rw [HN.out]; rintro e w3 ⟨rfl, hx3⟩; have k03 := (B0.ext hx3).cell; have k13 := (B1.ext hx3).cell))
  have HX : Hid (Ext w w3) := Lib.hid ((((((Ext.refl _).alloc _).alloc _).trans hx5).trans hx2).trans hx3)
  have B03 := B0.ext hx3
  have B13 := B1.ext hx3
  clear B0 B1 B05 B15 k05 k15 k0 k1
  go_region_held3 (fun W => W.cell? ⟨w.heap.size + 1, 1, none⟩ = some (.bool true) ∧ W.cell? ⟨w.heap.size + 1, 2, none⟩ = some (.string op)) (first | go_keep | (with_reducible exact ⟨hxa.cell (And.left ‹_ ∧ _›), hxa.cell (And.right ‹_ ∧ _›)⟩))
    (first
      | (go_at_call 34; refine (sets_any op _).mono ?_; rw [HN.out]; rintro e w6 ⟨rfl, hxa⟩; have hx6 := hxa))
  all_goals
    have HX6 : Hid (Ext w w6) := Lib.hid (HX.out.trans (((Ext.refl _).drew).trans hx6))
    have B06 := (B03.drew).ext hx6
    have B16 := (B13.drew).ext hx6
    have k06 := B06.cell
    have k16 := B16.cell
    clear hxa hx6
    go_wp2_with (go_at_call 35; refine (contains35_any d l HL.out (by have := HLEN.out; omega) _ _ _ op _ (HR.out.ext HX6.out) (HT.out.ext HX6.out) (B06.cell 0) (B16.cell 2)).mono ?_; rintro e w4 ⟨rfl, hx4⟩)
    go_ret
    exact ⟨rfl, HX6.out.trans hx4⟩

theorem right14_any (d : Int) (hd : 0 ≤ d ∧ d ≤ 2) (s : SR) (v : Value) (h : Fine d s) (w : World) (hT : Tab w) (hr : RdA w v s.args) :
    Calls Tryz.prog 14 #[.int .i64 d, .agg #[.string s.label, .bool s.colon, .string s.op, v]] w (RInt w .i64 0) := by
  obtain ⟨lab, col, op, args⟩ := s
  rcases h.lab with ⟨h1, h2⟩ | ⟨h1, h2⟩
  · simp only at h1 h2
    subst h1; subst h2
    exact right14_bare d hd op args v h.opne h.opg h.opn h.len h.args w hT hr
  · simp only at h1 h2
    subst h2
    exact right14_lab d hd lab op args v h1 h.opne h.opg h.opn h.len h.args w hT hr
end
end Go.Proofs.YtnklmehphmidhaaGreatDoor
