/- disasm.Stmts in any dialect; DisasmRight: the walk. -/
import Derived.Test.YtnklmehphmidhaaGreatDoorNac
import Derived.Test.YtnklmehphmidhaaGreatDoorNca
namespace Go.Proofs.YtnklmehphmidhaaGreatDoor
open Go.RowKit
set_option maxRecDepth 100000
set_option maxHeartbeats 2000000
set_option linter.unusedSimpArgs false
set_option linter.unusedVariables false

theorem stmts_none (d p0 : Int) (hd : d < 0 ∨ 2 < d) (F : Int → List Int → Piece) (b : List Int) (v : Value) (w : World) (hb : Byts w v b) :
    Calls Tryz.prog 9 #[.int .i64 d, .int .i64 p0, v] w (RStmts w (stmtsS F d p0 b)) := by
  obtain ⟨A, c, rfl, hc1, hc2, _, _⟩ := hb
  have HS := Lib.hid (show stmtsS F d p0 b = ([], 1) from if_pos (by omega))
  by_cases hd0 : d < 0
  · go_enter Tryz.func9, Tryz.ntmps9
    go_wp2
    go_ret2
    exact RStmts.none HS.out (Ext.refl _)
  · have hd2 : 2 < d := by omega
    go_enter Tryz.func9, Tryz.ntmps9
    go_wp2
    go_ret2
    exact RStmts.none HS.out (Ext.refl _)
theorem stmtsD (d : Int) (p0 : Int) (hp : i64ok p0) (b : List Int) (v : Value) (w : World) (hT : Tab w) (hb : Byts w v b) :
    Calls Tryz.prog 9 #[.int .i64 d, .int .i64 p0, v] w (RStmts w (stmtsS (FD d) d p0 b)) := by
  by_cases hd : d < 0 ∨ 2 < d
  · exact stmts_none d p0 hd (FD d) b v w hb
  have hd' : 0 ≤ d ∧ d ≤ 2 := by omega
  have hrg : ∀ x ∈ b, 0 ≤ x ∧ x ≤ 255 := by obtain ⟨_, _, _, _, _, h, _⟩ := hb; exact h
  refine stmts_any d (FD d) w (fun p b v W hx hb hl hp0 hpl => ?_) p0 hp b v w (Ext.refl w) hb (fun h0 h1 x hx => ?_)
  · have hrg : ∀ x ∈ b, 0 ≤ x ∧ x ≤ 255 := by obtain ⟨_, _, _, _, _, h, _⟩ := hb; exact h
    obtain ⟨_, s1, s2⟩ := fd_ok d hd' p b hrg hl
    refine ⟨fun e => ?_, fun e => ?_, s1, s2⟩
    · subst e
      have e : FD 2 p b = F86 p b := if_pos rfl
      rw [e]
      exact first86_any p hp0 b hpl v W (hT.ext hx) hb hl
    · have e : FD d p b = F80 d p b := if_neg e
      rw [e]
      exact (first80_any d (by omega) p b v W (hT.ext hx) hb hl).1
  · obtain ⟨h2, h3, h4⟩ := sweep_all (FD d) (PieceOk d) (fun p b hr hb _ _ => fd_ok d hd' p b hr hb) _ p0 b hrg h0 h1 x hx
    exact good_of h2 (by omega) (by omega)

/-- The k-th statement's cells. -/
theorem RdSt.at {w : World} {A : Option Addr} {n c : Nat} {l : List SR} (h : RdSt w (.slice A n c) l) {k : Nat} {s : SR} (hs : l[k]? = some s) : ∃ b o Aa ca, A = some ⟨b, o, none⟩ ∧
    w.cell? ⟨b, o + k * 4, none⟩ = some (.string s.label) ∧ w.cell? ⟨b, o + k * 4 + 1, none⟩ = some (.bool s.colon) ∧ w.cell? ⟨b, o + k * 4 + 2, none⟩ = some (.string s.op) ∧ w.cell? ⟨b, o + k * 4 + 3, none⟩ = some (.slice Aa s.args.length ca) ∧ RdA w (.slice Aa s.args.length ca) s.args := by
  obtain ⟨A', c', hv, h3⟩ := h
  injection hv with e1 e2 e3
  subst e1; subst e3
  have hk : k < l.length := by
    rcases Nat.lt_or_ge k l.length with h | h
    · exact h
    · rw [List.getElem?_eq_none h] at hs; cases hs
  obtain ⟨b, o, rfl, hb, hc⟩ := h3 (by omega)
  obtain ⟨va, c0, c1, c2, c3, ha⟩ := hc k s hs
  obtain ⟨Aa, ca, rfl, _⟩ := id ha
  exact ⟨b, o, Aa, ca, rfl, c0, c1, c2, c3, ha⟩

theorem RdA.at {w : World} {A : Option Addr} {n c : Nat} {l : List AR} (h : RdA w (.slice A n c) l) {k : Nat} {a : AR} (ha : l[k]? = some a) : ∃ b o, A = some ⟨b, o, none⟩ ∧
    ∀ j x, (AR.cells a)[j]? = some x → w.cell? ⟨b, o + k * 8 + j, none⟩ = some x := by
  obtain ⟨A', c', hv, h3⟩ := h
  injection hv with e1 e2 e3
  subst e1; subst e3
  have hk : k < l.length := by
    rcases Nat.lt_or_ge k l.length with h | h
    · exact h
    · rw [List.getElem?_eq_none h] at ha; cases ha
  obtain ⟨b, o, rfl, hb, hc⟩ := h3 (by omega)
  exact ⟨b, o, rfl, fun j x hx => hc k a j x ha hx⟩

theorem load39' {w : World} {g : Nat} {c0 c1 c2 c3 : Value} (h : Blk w g #[c0, c1, c2, c3]) (j : Nat) : w.cell? ⟨g, j, none⟩ = #[c0, c1, c2, c3][j]? := h.cell j

theorem right_main (d p : Int) (hd : 0 ≤ d ∧ d ≤ 2) (hp : i64ok p) (b : List Int) (v : Value) (w : World) (hT : Tab w) (hb : Byts w v b) (h1 : (b.length : Int) ≤ 300) (l : List SR) (hl : stmtsS (FD d) d p b = (l, 0)) :
    Calls Tryz.prog 5 #[.int .i64 d, .int .i64 p, v] w (RBool w true) := by
  have hrg : ∀ x ∈ b, 0 ≤ x ∧ x ≤ 255 := by obtain ⟨_, _, _, _, _, h, _⟩ := hb; exact h
  obtain ⟨HF, HA, hlen⟩ := right_plain d p b hrg l hl hd
  have HS := Lib.hid (stmtsD d p hp b v w hT hb)
  have HLL := Lib.hid hl
  have HT := Lib.hid hT
  have HFF := Lib.hid HF; have HAA := Lib.hid HA
  obtain ⟨A, c, rfl, _⟩ := hb
  clear hl hT hrg hp HF HA
  generalize hn : l.length = n at *
  have HN := Lib.hid hn
  clear hn
  generalize b.length = L at *
  have q1 : decide ((300 : Int) < (L : Int)) = false := by simp; omega
  go_enter Tryz.func5, Tryz.ntmps5
  go_wp2_with fail
  refine HS.out.mono ?_
  rw [HLL.out]
  rintro e w1 ⟨v1, L1, rfl, hL1, hst1, hx1⟩
  have hr1 := RdSt.of hst1
  rw [hL1] at hr1
  have hv1 : ∃ A c, v1 = .slice A n c := by
    obtain ⟨A, c, h, _⟩ := hr1
    rw [HN.out] at h
    exact ⟨A, c, h⟩
  obtain ⟨A1, c1, rfl⟩ := hv1
  have HR1 := Lib.hid hr1
  have HX1 := Lib.hid hx1
  clear hst1 hL1 hr1 hx1 HS HLL
  go_wp2
  go_loopw [9] (fun i wr => ∃ k, k ≤ n ∧ i = .int .i64 (k : Nat) ∧ Hid (Ext w1 wr)) (fun i _ => n - (intOf i).toNat)
  case atStart => exact ⟨0, by omega, rfl, Lib.hid (Ext.refl _)⟩
  case round =>
    obtain ⟨k, hk, rfl, HE⟩ := hrel
    obtain ⟨wo, rfl⟩ : ∃ wo : World, wo = wr := ⟨_, rfl⟩
    by_cases hlt : k < n
    · obtain ⟨s, hs⟩ : ∃ s, l[k]? = some s := ⟨_, List.getElem?_eq_getElem (by rw [HN.out]; exact hlt)⟩
      have HMS := Lib.hid (List.mem_of_getElem? hs)
      obtain ⟨b1, o1, Aa1, ca1, rfl, s0, s1, s2, s3, ra⟩ := RdSt.at (HR1.out.ext HE.out) hs
      have HRA := Lib.hid ra
      have HSS := Lib.hid hs
      clear ra hs
      go_wp2_with fail
      refine (right14_any d hd s _ (HFF.out s HMS.out) _ (HT.out.ext (HX1.out.trans HE.out)) HRA.out).mono ?_
      rintro e w3 ⟨rfl, hx3⟩
      have HX3 := Lib.hid hx3
      have t3 := hx3.cell s3
      clear s0 s1 s2 s3 hx3
      generalize hna : s.args.length = na at *
      have HNA := Lib.hid hna
      clear hna
      have hna2 : na ≤ 2 := by have := (HFF.out s HMS.out).len; rw [HNA.out] at this; exact this
      go_wp2
      go_loopw [10] (fun j wq => ∃ m, m ≤ na ∧ j = .int .i64 (m : Nat) ∧ Hid (Ext w3 wq)) (fun j _ => na - (intOf j).toNat)
      case atStart => exact ⟨0, by omega, rfl, Lib.hid (Ext.refl _)⟩
      case round =>
        obtain ⟨m, hm, rfl, HE3⟩ := hrel
        obtain ⟨wp, rfl⟩ : ∃ wp : World, wp = wr := ⟨_, rfl⟩
        have u3 := HE3.out.cell t3
        by_cases hmt : m < na
        · obtain ⟨a, ha⟩ : ∃ a, s.args[m]? = some a := ⟨_, List.getElem?_eq_getElem (by rw [HNA.out]; exact hmt)⟩
          obtain ⟨ba, oa, rfl, hac⟩ := RdA.at (HRA.out.ext (HX3.out.trans HE3.out)) ha
          have HMA := Lib.hid (List.mem_of_getElem? ha)
          clear ha
          have a4 := hac 4 _ rfl
          have a5 := hac 5 _ rfl
          have a6 := hac 6 _ rfl
          have a7 := hac 7 _ rfl
          clear hac
          rcases Bool.eq_false_or_eq_true (a.op.toList == [110]) with hop | hop
          · have HOP : Hid (a.op = ⟨#[110]⟩) := Lib.hid (toList_inj.1 (by simpa using hop))
            obtain ⟨t, ht, htl⟩ := HAA.out s HMS.out a HMA.out HOP.out
            have HTT := Lib.hid ht
            have HTL := Lib.hid htl
            clear ht htl
            generalize hnm : a.name = nm at *
            have HNM := Lib.hid hnm
            clear hnm
            go_wp2
            have BE := Blk.new wp #[.string a.op, .int .u16 a.n, .string nm, .slice none 0 0] 39
            go_loopw [12, 13] (fun is x wq => ∃ (r : Nat) (is' : Bool), r ≤ n ∧ x = .int .i64 (r : Nat) ∧ is = .bool is' ∧ Hid (is' = (l.take r).any (fun t => t.label.toList == nm.toList)) ∧ Hid (Ext (wp.alloc (.cells #[.string a.op, .int .u16 a.n, .string nm, .slice none 0 0] 39)) wq)) (fun _ x _ => n - (intOf x).toNat)
            case atStart => exact ⟨0, false, by omega, rfl, rfl, Lib.hid (by simp), Lib.hid (Ext.refl _)⟩
            case round =>
              obtain ⟨r, is', hr, rfl, rfl, HIS, HEX⟩ := hrel
              have kn := (BE.ext HEX.out).cell 2
              by_cases hrt : r < n
              · obtain ⟨t2, ht2⟩ : ∃ t2, l[r]? = some t2 := ⟨_, List.getElem?_eq_getElem (by rw [HN.out]; exact hrt)⟩
                obtain ⟨b2, o2, Aa2, ca2, hbb, t0, _, _, _, _⟩ := RdSt.at (HR1.out.ext ((((HE.out.trans HX3.out).trans HE3.out).alloc _).trans HEX.out)) ht2
                injection hbb with hbb
                injection hbb with hb1 hb2
                subst hb1; subst hb2
                have HNX : Hid ((l.take (r + 1)).any (fun t => t.label.toList == nm.toList) = (is' || (t2.label.toList == nm.toList))) := Lib.hid (by
                  rw [List.take_add_one, ht2, List.any_append, ← HIS.out]; simp)
                clear ht2
                cases is'
                · go_wp2
                  go_quiet (fail)
                  go_wp2
                  go_roundw
                  case rel => exact ⟨r + 1, _, by omega, by go_num, rfl, Lib.hid (by rw [HNX.out]; simp), Lib.hid (HEX.out.drewN _)⟩
                  case measure => simp [intOf]; omega
                · go_wp2
                  go_quiet (fail)
                  go_wp2
                  go_roundw
                  case rel => exact ⟨r + 1, _, by omega, by go_num, rfl, Lib.hid (by rw [HNX.out]; simp), Lib.hid (HEX.out.drewN _)⟩
                  case measure => simp [intOf]; omega
              · obtain rfl : r = n := by omega
                have hist : is' = true := by
                  rw [HIS.out, List.take_of_length_le (by rw [HN.out]; exact Nat.le_refl _), List.any_eq_true]
                  exact ⟨t, HTT.out, by rw [HTL.out]; simp⟩
                subst hist
                go_wp2
                go_roundw
                case rel => exact ⟨m + 1, by omega, by go_num, Lib.hid ((HE3.out.alloc _).trans HEX.out)⟩
                case measure => simp [intOf]; omega
          · go_wp2
            go_roundw
            case rel => exact ⟨m + 1, by omega, by go_num, Lib.hid (HE3.out.alloc _)⟩
            case measure => simp [intOf]; omega
        · obtain rfl : m = na := by omega
          go_wp2
          go_roundw
          case rel => exact ⟨k + 1, by omega, by go_num, Lib.hid ((HE.out.trans HX3.out).trans HE3.out)⟩
          case measure => simp [intOf]; omega
    · obtain rfl : k = n := by omega
      have HWX := Lib.hid (HX1.out.trans HE.out)
      go_wp2_with (go_at_call 8; refine (alive_any _ (HT.out.ext HWX.out)).mono ?_; rintro e w3 ⟨rfl, hx3⟩)
      go_ret
      exact ⟨rfl, HWX.out.trans hx3⟩

theorem right_any (d p : Int) (hp : i64ok p) (b : List Int) (v : Value) (w : World) (hT : Tab w) (hb : Byts w v b) : Calls Tryz.prog 5 #[.int .i64 d, .int .i64 p, v] w (RBool w true) := by
  by_cases h1 : (300 : Int) < b.length
  · obtain ⟨A, c, rfl, hc1, hc2, _⟩ := hb
    have HT := Lib.hid hT; clear hT
    go_enter Tryz.func5, Tryz.ntmps5
    go_wp2_with (go_at_call 8; refine (alive_any _ HT.out).mono ?_; rintro e w3 ⟨rfl, hx3⟩)
    go_ret
    exact ⟨rfl, hx3⟩
  rcases hr : stmtsS (FD d) d p b with ⟨l, k⟩
  by_cases hk : k = 0
  · subst hk
    exact right_main d p (stmts_kind d p (FD d) b (by rw [hr])) hp b v w hT hb (by omega) l hr
  · have hl : l = [] := by have := stmts_bad d p (FD d) b (by rw [hr]; exact hk); rw [hr] at this; exact this
    subst hl
    have HS := Lib.hid (stmtsD d p hp b v w hT hb)
    have HLL := Lib.hid hr
    obtain ⟨A, c, rfl, hc1, hc2, _⟩ := hb
    have HT := Lib.hid hT; clear hT hr
    have g1 : (b.length : Int) ≤ 300 := by omega
    go_enter Tryz.func5, Tryz.ntmps5
    go_wp2_with (first
      | (go_at_call 9; refine HS.out.mono ?_; rw [HLL.out]; rintro e w1 ⟨v1, L1, rfl, hL1, hst1, hx1⟩; have hL0 : L1 = [] := List.map_eq_nil_iff.1 hL1; subst hL0; obtain ⟨A1, c1, rfl⟩ := hst1.slice)
      | (go_at_call 8; refine (alive_any _ (HT.out.ext hx1)).mono ?_; rintro e w3 ⟨rfl, hx3⟩))
    go_ret
    exact ⟨rfl, hx1.trans hx3⟩
end Go.Proofs.YtnklmehphmidhaaGreatDoor
