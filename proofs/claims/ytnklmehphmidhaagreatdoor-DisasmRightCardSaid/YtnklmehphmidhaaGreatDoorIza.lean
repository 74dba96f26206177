/- isa86: registers, bytes of registers, heads' sizes, an opcode's guess. -/
import Derived.Test.YtnklmehphmidhaaGreatDoorMe
namespace Go.Proofs.YtnklmehphmidhaaGreatDoor
open Go.RowKit
set_option maxRecDepth 100000
set_option maxHeartbeats 1000000
set_option linter.unusedSimpArgs false
set_option linter.unusedVariables false

theorem ret_int {k : IntKind} {a b : Int} (h : a = b) : Ending.returned (.int k a) = .returned (.int k b) := by rw [h]
def registerS (x : Int) (b : Bool) : Int := x % 8 + if b = true then 9 else 1
theorem register_any (x : Int) (h0 : 0 ≤ x) (h1 : x ≤ 255) (b : Bool) (w : World) : Calls Tryz.prog 154 #[.int .u8 x, .bool b] w fun e w' => e = .returned (.int .i64 (registerS x b)) ∧ w = w' := by
  have hb := band7 x h0 (by omega)
  cases b
  all_goals
    go_enter Tryz.func154, Tryz.ntmps154
    go_wp2
    go_ret
    exact ⟨rfl, rfl⟩

def wideS (c : Int) : Int := if 1 ≤ c ∧ c ≤ 8 then 8 else if 9 ≤ c ∧ c ≤ 16 then 16 else 0
theorem wide_any (c : Int) (w : World) : Calls Tryz.prog 191 #[.int .i64 c] w fun e w' => e = .returned (.int .i64 (wideS c)) ∧ w = w' := by
  have HW := Lib.hid (show wideS c = (if 1 ≤ c ∧ c ≤ 8 then 8 else if 9 ≤ c ∧ c ≤ 16 then 16 else 0) from rfl)
  go_enter Tryz.func191, Tryz.ntmps191
  go_wp2
  all_goals
    go_ret
    refine ⟨?_, rfl⟩
    rw [HW.out]
    first
      | (rw [if_pos (by omega)]; done)
      | (rw [if_pos (by omega)]; rfl)
      | (rw [if_neg (by omega), if_pos (by omega)]; rfl)
      | (rw [if_neg (by omega), if_neg (by omega)]; rfl)

def numS (c : Int) : Int := (c - 1) % 8
def rmS (x y : Int) : Int := bits .or .u8 (bits .or .u8 192 (x * 8)) y
def memS (x y : Int) : Int := bits .or .u8 (x * 8) y
theorem num_any (c : Int) (h0 : 1 ≤ c) (h1 : c ≤ 16) (w : World) : Calls Tryz.prog 193 #[.int .i64 c] w fun e w' => e = .returned (.int .u8 (numS c)) ∧ w = w' := by
  have hb := band7 (c - 1) (by omega) (by omega)
  go_enter Tryz.func193, Tryz.ntmps193
  go_wp2
  go_ret
  exact ⟨rfl, rfl⟩
theorem rm_any (x y : Int) (h0 : 0 ≤ x) (h1 : x ≤ 7) (w : World) : Calls Tryz.prog 192 #[.int .u8 x, .int .u8 y] w fun e w' => e = .returned (.int .u8 (rmS x y)) ∧ w = w' := by
  go_enter Tryz.func192, Tryz.ntmps192
  go_wp2
  go_ret
  exact ⟨rfl, rfl⟩
theorem mem_any (x y : Int) (h0 : 0 ≤ x) (h1 : x ≤ 7) (w : World) : Calls Tryz.prog 195 #[.int .u8 x, .int .u8 y] w fun e w' => e = .returned (.int .u8 (memS x y)) ∧ w = w' := by
  go_enter Tryz.func195, Tryz.ntmps195
  go_wp2
  go_ret
  exact ⟨rfl, rfl⟩

theorem of159_any (t : Int) (A : Option Addr) (n c : Nat) (w : World) : Calls Tryz.prog 159 #[.int .i64 t, .slice A n c] w fun e w' => e = .returned (.agg #[.slice A n c, .int .i64 t]) ∧ Ext w w' := by
  have hl : ∀ (W : World) (g : Nat) (c0 c1 : Value), Blk W g #[c0, c1] → (loadVar 137 ⟨g, 0, none⟩).run Tryz.prog W = .ok (.agg #[c0, c1]) W := by
    intro W g c0 c1 h
    have hc := h.cell
    simp [go_sem, hc]
  go_enter Tryz.func159, Tryz.ntmps159
  go_wp2
  refine bodyPost_ret (res1 rfl _ _ _ w.heap.size _ rfl (hl _ _ _ _ (Blk.new _ _ _))) rfl ⟨rfl, ?_⟩
  repeat (first | exact Ext.refl _ | apply Ext.alloc | (refine Ext.setCell ?_ (by simp) _))

def hsizeS (n t : Int) : Int := if t = 1 ∨ t = 3 then n + 1 else if t = 2 then n + 2 else n
theorem hsize_any (t : Int) (A : Option Addr) (n c : Nat) (hn : n ≤ 1000) (w : World) : Calls Tryz.prog 117 #[.agg #[.slice A n c, .int .i64 t]] w (RInt w .i64 (hsizeS n t)) := by
  have HW := Lib.hid (show hsizeS n t = (if t = 1 ∨ t = 3 then (n : Int) + 1 else if t = 2 then (n : Int) + 2 else n) from rfl)
  go_enter Tryz.func117, Tryz.ntmps117
  go_wp2
  all_goals
    go_ret
    refine ⟨?_, (Ext.refl _).alloc _⟩
    rw [HW.out]
    simp only [beq_iff_eq, beq_eq_false_iff_ne] at *
    first
      | (rw [if_pos (by omega)]; rfl)
      | (rw [if_neg (by omega), if_pos (by omega)]; rfl)
      | (rw [if_neg (by omega), if_neg (by omega)]; rfl)

/-- The place of a byte; -1: it is not there. -/
def idxI (l : List Int) (x : Int) : Int := match l.findIdx? (fun y => y == x) with | some i => i | none => -1
theorem index190_any (l : List Int) (x : Int) (v : Value) (w : World) (hb : Byts w v l) (hl : l.length ≤ 1000) : Calls Tryz.prog 190 #[v, .int .u8 x] w (RInt w .i64 (idxI l x)) := by
  obtain ⟨A, c, rfl, hc1, hc2, hr, h⟩ := hb
  generalize hL : l.length = L at *
  have HL := Lib.hid hL; clear hL
  have HH := Lib.hid h; clear h
  clear hr
  go_enter Tryz.func190, Tryz.ntmps190
  go_wp2
  go_loopw [8] (fun i wr => ∃ k, k ≤ L ∧ i = .int .i64 (k : Nat) ∧ Ext w wr ∧ Hid (∀ j, j < k → l.getD j 0 ≠ x)) (fun i _ => L - (intOf i).toNat)
  case atStart => exact ⟨0, by omega, rfl, Ext.refl _, Lib.hid (by intro j hj; omega)⟩
  case round =>
    obtain ⟨k, hk, rfl, E, HNO⟩ := hrel
    by_cases hlt : k < L
    · obtain ⟨b, o, rfl, hb, hcell⟩ := HH.out (by omega)
      have ka := E.cell (hcell k hlt)
      clear hcell
      generalize hka : l.getD k 0 = a at *
      have HKA := Lib.hid hka; clear hka
      rcases Bool.eq_false_or_eq_true (x == a) with hxa | hxa
      · have HI : Hid (idxI l x = k) := Lib.hid (by
          have hxa' : x = a := by simpa using hxa
          have hkl : k < l.length := by rw [HL.out]; exact hlt
          have hg : ∀ j (hj : j < l.length), l.getD j 0 = l[j] := fun j hj => by simp [hj]
          have : l.findIdx? (fun y => y == x) = some k := by
            rw [List.findIdx?_eq_some_iff_getElem]
            refine ⟨hkl, ?_, ?_⟩
            · have := HKA.out
              rw [hg k hkl] at this
              simp [this, hxa']
            · intro j hj
              have h1 := HNO.out j hj
              rw [hg j (by omega)] at h1
              simpa using h1
          unfold idxI; rw [this])
        go_wp2
        go_ret
        exact ⟨ret_int HI.out.symm, E⟩
      · go_wp2
        go_roundw
        case rel =>
          refine ⟨k + 1, by omega, by go_num, E, Lib.hid (fun j hj => ?_)⟩
          rcases Nat.lt_or_ge j k with h | h
          · exact HNO.out j h
          · obtain rfl : j = k := by omega
            rw [HKA.out]
            intro e
            rw [e] at hxa
            simp at hxa
        case measure => simp [intOf]; omega
    · obtain rfl : k = L := by omega
      have HI : Hid (idxI l x = -1) := Lib.hid (by
        have : l.findIdx? (fun y => y == x) = none := by
          rw [List.findIdx?_eq_none_iff]
          intro y hy
          obtain ⟨j, hj, rfl⟩ := List.getElem_of_mem hy
          have h1 := HNO.out j (by rw [← HL.out]; exact hj)
          have h2 : l.getD j 0 = l[j] := by simp [hj]
          rw [h2] at h1
          simpa using h1
        unfold idxI; rw [this])
      go_wp2
      go_ret
      exact ⟨ret_int HI.out.symm, E⟩

theorem list_ext_getD {l m : List Int} (hlm : l.length = m.length) (h : ∀ j, j < l.length → l.getD j 0 = m.getD j 0) : l = m := by
  apply List.ext_getElem hlm
  intro i h1 h2
  have := h i h1
  simpa [h1, h2] using this
theorem equal116_any (l m : List Int) (v u : Value) (w : World) (hb : Byts w v l) (hm : Byts w u m) (hl : l.length ≤ 1000) (hml : m.length ≤ 1000) : Calls Tryz.prog 116 #[v, u] w fun e w' => e = .returned (.bool (l == m)) ∧ ∃ n, w' = w.drewN n := by
  obtain ⟨A, c, rfl, hc1, hc2, hr, h⟩ := hb
  obtain ⟨B, d, rfl, hd1, hd2, hs, g⟩ := hm
  clear hr hs
  by_cases hne : l.length = m.length
  · have HLM := Lib.hid hne
    have hM : m.length = l.length := hne.symm
    simp only [hM] at g hml hd1 ⊢
    clear hne hM
    generalize hL : l.length = L at *
    have HL := Lib.hid hL; clear hL
    have HH := Lib.hid h; clear h
    have HG := Lib.hid g; clear g
    go_enter Tryz.func116, Tryz.ntmps116
    go_wp2
    go_loopw [13] (fun i wr => ∃ k, k ≤ L ∧ i = .int .i64 (k : Nat) ∧ (∃ n, wr = w.drewN n) ∧ Hid (∀ j, j < k → l.getD j 0 = m.getD j 0)) (fun i _ => L - (intOf i).toNat)
    case atStart => exact ⟨0, by omega, rfl, ⟨0, rfl⟩, Lib.hid (by intro j hj; omega)⟩
    case round =>
      obtain ⟨k, hk, rfl, ⟨n, rfl⟩, HNO⟩ := hrel
      by_cases hlt : k < L
      · obtain ⟨b, o, rfl, hb, hcell⟩ := HH.out (by omega)
        obtain ⟨b2, o2, rfl, hb2, hcell2⟩ := HG.out (by omega)
        have ka := hcell k hlt
        have kb := hcell2 k hlt
        clear hcell hcell2
        generalize hka : l.getD k 0 = a at *
        have HKA := Lib.hid hka; clear hka
        generalize hkb : m.getD k 0 = a2 at *
        have HKB := Lib.hid hkb; clear hkb
        rcases Bool.eq_false_or_eq_true (a == a2) with hxa | hxa
        · go_wp2
          go_quiet (fail)
          go_wp2
          go_roundw
          case rel =>
            refine ⟨k + 1, by omega, by go_num, ⟨_, rfl⟩, Lib.hid (fun j hj => ?_)⟩
            rcases Nat.lt_or_ge j k with h | h
            · exact HNO.out j h
            · obtain rfl : j = k := by omega
              rw [HKA.out, HKB.out]; simpa using hxa
          case measure => simp [intOf]; omega
        · have HE : Hid ((l == m) = false) := Lib.hid (by
            rw [Bool.eq_false_iff]
            intro e
            have e2 : l = m := by simpa using e
            have h1 := HKA.out
            rw [e2, HKB.out] at h1
            rw [h1] at hxa
            simp at hxa)
          go_wp2
          go_quiet (fail)
          go_wp2
          go_ret
          exact ⟨by rw [HE.out]; rfl, n + nq, World.drewN_drewN _ _ _⟩
      · obtain rfl : k = L := by omega
        have HE : Hid ((l == m) = true) := Lib.hid (by
          have := list_ext_getD (l := l) (m := m) (HL.out.trans HLM.out) (by rw [HL.out]; exact HNO.out)
          simpa using this)
        go_wp2
        go_ret
        exact ⟨by rw [HE.out]; rfl, _, rfl⟩
  · have HE : Hid ((l == m) = false) := Lib.hid (by
      rw [Bool.eq_false_iff]
      intro e
      have e2 : l = m := by simpa using e
      exact hne (by rw [e2]))
    have hnb : ((l.length : Int) == (m.length : Int)) = false := by simp; omega
    have hnb2 : ((l.length : Int) != (m.length : Int)) = true := by simp; omega
    clear hne
    generalize l.length = L at *
    generalize m.length = M at *
    go_enter Tryz.func116, Tryz.ntmps116
    go_wp2
    go_ret
    exact ⟨by rw [HE.out]; rfl, 0, rfl⟩

def aloneL : List Int := [159, 158, 39, 245, 249, 248, 251, 250, 244, 144]
def aloneS (a : Int) : Int × Int × Int :=
  if (a == 160) = true then (1, 1, 19) else if (a == 162) = true then (1, 19, 1) else if (a == 228) = true then (30, 1, 20) else if (a == 230) = true then (31, 20, 1)
  else if (a == 233) = true then (32, 20, 0) else if (a == 235) = true then (33, 20, 0) else if (a == 232) = true then (34, 20, 0) else if (a == 195) = true then (35, 0, 0)
  else (20 + idxI aloneL a, 0, 0)
def R3 (w : World) (r : Int × Int × Int) : Ending → World → Prop := fun e w' => e = .returned (.tuple #[.int .i64 r.1, .int .i64 r.2.1, .int .i64 r.2.2]) ∧ Ext w w'
theorem R3.mk {w w' : World} {r : Int × Int × Int} {a b c : Int} (h : r = (a, b, c)) (hx : Ext w w') : R3 w r (.returned (.tuple #[.int .i64 a, .int .i64 b, .int .i64 c])) w' := by subst h; exact ⟨rfl, hx⟩
end Go.Proofs.YtnklmehphmidhaaGreatDoor
