/- expr.Right, Names, on a number or a name. -/
import Derived.Test.YtnklmehphmidhaaGreatDoorRee
namespace Go.Proofs.YtnklmehphmidhaaGreatDoor
open Go.RowKit
set_option maxRecDepth 100000
set_option maxHeartbeats 1000000
set_option linter.unusedSimpArgs false
set_option linter.unusedVariables false

theorem Blk.newAt (w : World) (g : Nat) (cs : Array Value) (t : TypeId) (hg : g = w.heap.size) : Blk (w.alloc (.cells cs t)) g cs := hg ▸ Blk.new w cs t
theorem index189_nil (f : Value) (w : World) : Calls Tryz.prog 189 #[.slice none 0 0, f] w fun e w' => e = .returned (.int .i64 (-1)) ∧ w = w' := by
  go_enter Tryz.func189, Tryz.ntmps189
  go_wp2
  go_loop [8] (fun i => i = .int .i64 0) (fun _ => 0)
  case atStart => rfl
  case round =>
    obtain rfl := hrel
    go_wp2
    go_ret
    exact ⟨rfl, rfl⟩
theorem contains152_nil (f : Value) (w : World) : Calls Tryz.prog 152 #[.slice none 0 0, f] w fun e w' => e = .returned (.bool false) ∧ w = w' := by
  go_enter Tryz.func152, Tryz.ntmps152
  go_wp2_with (go_at_call 189; refine (index189_nil _ _).mono ?_; rintro e w1 ⟨rfl, rfl⟩)
  go_ret
  exact ⟨rfl, rfl⟩

theorem right110_num (n m : Int) (hm : 1 ≤ m) (w : World) : Calls Tryz.prog 110 #[.agg #[.string ⟨#[35]⟩, .int .u16 n, .string ⟨#[]⟩, .slice none 0 0], .int .i64 m] w (RBool w true) := by
  have h0 : (m == 0) = false := by simp; omega
  go_enter Tryz.func110, Tryz.ntmps110
  go_wp2_with (go_at_call 150; refine (binds_num _).mono ?_; rintro e w1 ⟨rfl, rfl⟩)
  go_quiet (fail)
  go_wp2_with (go_at_call 152; refine (contains152_nil _ _).mono ?_; rintro e w1 ⟨rfl, rfl⟩)
  all_goals
    go_ret
    exact ⟨rfl, (((Ext.refl _).alloc _).alloc _).drewN _⟩
theorem right61_num (n : Int) (w : World) : Calls Tryz.prog 61 #[.agg #[.string ⟨#[35]⟩, .int .u16 n, .string ⟨#[]⟩, .slice none 0 0]] w (RInt w .i64 0) := by
  go_enter Tryz.func61, Tryz.ntmps61
  go_wp2_with (go_at_call 110; refine (right110_num n 24 (by decide) _).mono ?_; rintro e w1 ⟨rfl, hx1⟩)
  go_ret
  exact ⟨rfl, ((Ext.refl _).alloc _).trans hx1⟩

/-- A label's name. -/
structure LabN (s : ByteArray) : Prop where
  nm : nameB s = true
  up : (upperS s).toList == s.toList
  op : inS s opsL = false
  pl : ∀ d, plainB d s = true

theorem right110_nam (s : ByteArray) (h : LabN s) (m : Int) (hm : 1 ≤ m) (w : World) : Calls Tryz.prog 110 #[.agg #[.string ⟨#[110]⟩, .int .u16 0, .string s, .slice none 0 0], .int .i64 m] w (RBool w true) := by
  have h0 : (m == 0) = false := by simp; omega
  have hsz := nameB_size h.nm
  have hu := h.up
  have HN := Lib.hid h.nm
  have HO := Lib.hid h.op
  clear h
  go_enter Tryz.func110, Tryz.ntmps110
  go_wp2_with (go_at_call 150; refine (binds_nam _).mono ?_; rintro e w1 ⟨rfl, rfl⟩)
  go_region_held3 (fun W => W.cell? ⟨w.heap.size, 0, none⟩ = some (.string ⟨#[110]⟩) ∧ W.cell? ⟨w.heap.size, 2, none⟩ = some (.string s)) (first | go_keep | (with_reducible exact ⟨hxa.cell (And.left ‹_ ∧ _›), hxa.cell (And.right ‹_ ∧ _›)⟩))
    (first
      | (go_at_call 53; refine (name53_any s _).mono ?_; rw [HN.out]; rintro e w2 ⟨rfl, rfl⟩)
      | (go_at_call 54; refine (upper_any s (by omega) _).mono ?_; rintro e w3 ⟨rfl, hxa⟩; have hx3 := hxa)
      | (go_at_call 151; refine (eword_no s HO.out _).mono ?_; rintro e w4 ⟨rfl, rfl⟩))
  all_goals
    have B0 : Blk w3 w.heap.size #[.string ⟨#[110]⟩, .int .u16 0, .string s, .slice none 0 0] := (((Blk.new w _ 39).alloc _).drew).ext hx3
    have B1 : Blk w3 (w.heap.size + 1) #[.int .i64 m] := ((Blk.newAt _ (w.heap.size + 1) _ 3 (by simp)).drew).ext hx3
    have k0 := B0.cell
    have k1 := B1.cell
    have HX := Lib.hid hx3
    clear hxa hx3
    go_wp2_with (go_at_call 152; refine (contains152_nil _ _).mono ?_; rintro e w1 ⟨rfl, rfl⟩)
  all_goals
    go_ret
    exact ⟨rfl, ((((Ext.refl _).alloc _).alloc _).drew).trans HX.out⟩
theorem right61_nam (s : ByteArray) (h : LabN s) (w : World) : Calls Tryz.prog 61 #[.agg #[.string ⟨#[110]⟩, .int .u16 0, .string s, .slice none 0 0]] w (RInt w .i64 0) := by
  have H := Lib.hid h; clear h
  go_enter Tryz.func61, Tryz.ntmps61
  go_wp2_with (go_at_call 110; refine (right110_nam s H.out 24 (by decide) _).mono ?_; rintro e w1 ⟨rfl, hx1⟩)
  go_ret
  exact ⟨rfl, ((Ext.refl _).alloc _).trans hx1⟩

theorem Tryz.info9 : (Tryz.prog.info? 9).map (fun i => (i.zero, i.size, i.bytes)) = some (some (.string ⟨#[]⟩), 1, 16) := by kernel_rfl
/-- v reads as the list l of strings (its capacity is left open). -/
def RdS (w : World) (v : Value) (l : List ByteArray) : Prop :=
  ∃ A c, v = .slice A l.length c ∧ l.length ≤ c ∧ (0 < l.length → ∃ b o, A = some ⟨b, o, none⟩ ∧ b < w.heap.size ∧ ∀ j x, l[j]? = some x → w.cell? ⟨b, o + j, none⟩ = some (.string x))
theorem RdS.ext {w w' : World} {v : Value} {l : List ByteArray} (h : RdS w v l) (hb : Ext w w') : RdS w' v l := by
  obtain ⟨A, c, hv, h1, h3⟩ := h
  refine ⟨A, c, hv, h1, fun hp => ?_⟩
  obtain ⟨b, o, hA, hlt, hc⟩ := h3 hp
  exact ⟨b, o, hA, Nat.lt_of_lt_of_le hlt hb.size, fun j x hx => hb.cell (hc j x hx)⟩
theorem RdS.of {w : World} {v : Value} {l : List ByteArray} (h : Strs w v l) : RdS w v l := by
  obtain ⟨A, c, hv, h1, _, h3⟩ := h
  exact ⟨A, c, hv, h1, h3⟩
theorem RdS.nil (w : World) : RdS w (.slice none 0 0) [] := RdS.of (Strs.nil w)
/-- A row of strings of one's own, read. -/
theorem RdS.own {w : World} {base n : Nat} {v : Value} {l : List ByteArray} (h : w.ownsRow base 9 1 v n (l.map Value.string)) (hn : n = l.length) : RdS w v l := by
  subst hn
  obtain ⟨h1, h2 | ⟨g, cap, cur, rfl, hb, hg, hcap, hm, hs, hx⟩⟩ := h
  · obtain ⟨rfl, hn⟩ := h2
    have : l = [] := List.eq_nil_of_length_eq_zero hn
    subst this
    exact RdS.nil w
  · refine ⟨_, cap, rfl, hcap, fun hp => ⟨g, 0, rfl, (Array.getElem?_eq_some_iff.1 hg).1, fun j x hx' => ?_⟩⟩
    have hj : j < l.length := by
      rcases Nat.lt_or_ge j l.length with h | h
      · exact h
      · rw [List.getElem?_eq_none h] at hx'; cases hx'
    have : (List.take (l.length * 1) cur.toList)[j]? = some (Value.string x) := by rw [hx]; simp [hx']
    rw [List.getElem?_take_of_lt (by omega)] at this
    simp only [Nat.zero_add, World.cell?, hg]
    simpa using this
def RRds (w : World) (l : List ByteArray) : Ending → World → Prop := fun e w' => ∃ v, e = .returned v ∧ RdS w' v l ∧ Ext w w'
theorem RRds.mk {w w' : World} {v : Value} {l : List ByteArray} (hs : RdS w' v l) (he : Ext w w') : RRds w l (.returned v) w' := ⟨v, rfl, hs, he⟩
theorem names_num (n : Int) (w : World) : Calls Tryz.prog 63 #[.agg #[.string ⟨#[35]⟩, .int .u16 n, .string ⟨#[]⟩, .slice none 0 0]] w (RRds w []) := by
  go_enter Tryz.func63, Tryz.ntmps63
  go_wp2
  go_loop [2, 16] (fun o i => i = .int .i64 0 ∧ o = .slice none 0 0) (fun _ _ => 0)
  case atStart => exact ⟨rfl, rfl⟩
  case round =>
    obtain ⟨rfl, rfl⟩ := hrel
    go_wp2
    go_ret
    exact RRds.mk (RdS.nil _) ((Ext.refl _).alloc _)
theorem heap_new_at (w : World) (g : Nat) (o : Obj) (hg : g = w.heap.size) : (w.alloc o).heap[g]? = some o := hg ▸ heap_alloc_new w o
theorem names_nam (s : ByteArray) (w : World) : Calls Tryz.prog 63 #[.agg #[.string ⟨#[110]⟩, .int .u16 0, .string s, .slice none 0 0]] w (RRds w [s]) := by
  obtain ⟨i0, hi0, hz0, hz1, hz2⟩ := info_parts Tryz.info9
  have hown := World.ownsRow_nil ((w.alloc (.cells #[.string ⟨#[110]⟩, .int .u16 0, .string s, .slice none 0 0] 39))) w.heap.size 9 1
  go_enter Tryz.func63, Tryz.ntmps63
  go_wp2_with (at_builtin; refine wpList_append_own_at _ rfl _ _ _ rfl w.heap.size 9 i0 _ 1 16 Tryz.underlying79 hi0 hz0 hz1 hz2 rfl (by omega) (.slice none 0 0) 0 [] (by rfl) (hown.alloc _) ⟨w.heap.size + 1, 0, none⟩ 1 1 [.string s] (by rfl) (by rfl) (World.news_of_block (cs := #[.string s]) (t := 9) (fr := (0, 0)) (heap_new_at _ _ _ (by simp))) (by simp [Value.oneCell']) (by unfold maxLen; omega) (by omega) (by simp; omega) ?_; intro v7 w7 hown7 hgrow _ _; have hB := ((Blk.new w #[.string ⟨#[110]⟩, .int .u16 0, .string s, .slice none 0 0] 39).alloc (.cells #[.string s] 9)).grown hgrow (by simp [Value.ownBlock]); have k := hB.cell; have HO := Lib.hid (RdS.own (l := [s]) hown7 rfl); have HX := Lib.hid (ext_grown (((Ext.refl w).alloc _).alloc _) hgrow (by simp [Value.ownBlock])); clear hown7 hgrow)
  clear hown
  go_loop [2, 16] (fun o i => i = .int .i64 0 ∧ o = v7) (fun _ _ => 0)
  case atStart => exact ⟨rfl, rfl⟩
  case round =>
    obtain ⟨rfl, rfl⟩ := hrel
    go_wp2
    go_ret
    exact RRds.mk HO.out HX.out
end Go.Proofs.YtnklmehphmidhaaGreatDoor
