/- DisasmPlaces: the walk. -/
import Derived.Test.YtnklmehphmidhaaGreatDoorPla
namespace Go.Proofs.YtnklmehphmidhaaGreatDoor
open Go.RowKit
set_option maxRecDepth 100000
set_option maxHeartbeats 2000000
set_option linter.unusedSimpArgs false
set_option linter.unusedVariables false

/-- The k-th statement's cells. -/
theorem RdSt.at {w : World} {A : Option Addr} {n c : Nat} {l : List SR} (h : RdSt w (.slice A n c) l) {k : Nat} {s : SR} (hs : l[k]? = some s) : ∃ b o Aa ca, A = some ⟨b, o, none⟩ ∧
    w.cell? ⟨b, o + k * 4, none⟩ = some (.string s.label) ∧ w.cell? ⟨b, o + k * 4 + 1, none⟩ = some (.bool s.colon) ∧ w.cell? ⟨b, o + k * 4 + 2, none⟩ = some (.string s.op) ∧ w.cell? ⟨b, o + k * 4 + 3, none⟩ = some (.slice Aa s.args.length ca) ∧ RdA w (.slice Aa s.args.length ca) s.args := by
  obtain ⟨A', c', hv, h3⟩ := h
  injection hv with e1 e2 e3
  subst e1; subst e3
  have hk : k < l.length := by
    rcases Nat.lt_or_ge k l.length with h | h
    · exact h
    · rw [List.getElem?_eq_none h] at hs; cases hs
  obtain ⟨b, o, rfl, hb, hc⟩ := h3 (by omega)
  obtain ⟨va, c0, c1, c2, c3, ha⟩ := hc k s hs
  obtain ⟨Aa, ca, rfl, _⟩ := id ha
  exact ⟨b, o, Aa, ca, rfl, c0, c1, c2, c3, ha⟩

theorem places_main (p : Int) (hp : i64ok p) (b : List Int) (v : Value) (w : World) (hT : Tab w) (hb : Byts w v b) (h1 : (b.length : Int) ≤ 300) (h2 : 0 ≤ p) (h3 : p ≤ 65536 - b.length) : Calls Tryz.prog 7 #[.int .i64 p, v] w (RBool w true) := by
  have hrg : ∀ x ∈ b, 0 ≤ x ∧ x ≤ 255 := by obtain ⟨_, _, _, _, _, h, _⟩ := hb; exact h
  obtain ⟨l, m, hl, hm, hlm, hz, hk⟩ := places_plain p b hrg h2 (by omega)
  have hn5 : l.length ≤ 65537 := by
    have := (fine80 0 (.inl rfl) p b hrg).2
    rw [hl] at this
    exact this
  have HLL := Lib.hid hl; have HMM := Lib.hid hm; have HK := Lib.hid hk
  have HLM := Lib.hid hlm
  have HB := Lib.hid hb
  have HT := Lib.hid hT
  have HPK := Lib.hid hp
  obtain ⟨A, c, rfl, _⟩ := hb
  clear hl hm hk hT hrg hp
  have HZ := Lib.hid hz; clear hz
  generalize hn : l.length = n at *
  have HN := Lib.hid hn
  have HMN : Hid (m.length = n) := Lib.hid hlm.symm
  clear hn hlm
  generalize hL : b.length = L at *
  have HL := Lib.hid hL; clear hL
  obtain ⟨X, hLb, hnb⟩ : ∃ X : Bool, ((L : Int) == 0) = X ∧ ((n : Int) == 0) = X := by
    by_cases h0 : L = 0
    · have := HZ.out.2 h0
      exact ⟨true, by simp; omega, by simp; omega⟩
    · have : ¬ n = 0 := fun e => h0 (HZ.out.1 e)
      exact ⟨false, by simp; omega, by simp; omega⟩
  clear HZ
  have q1 : decide ((300 : Int) < (L : Int)) = false := by simp; omega
  have q2 : decide (p < 0) = false := by simp; omega
  have q3 : decide (65536 - (L : Int) < p) = false := by simp; omega
  cases X
  all_goals
    go_enter Tryz.func7, Tryz.ntmps7
    go_wp2_with fail
    refine (stmts80 0 (.inl rfl) p HPK.out b _ _ HT.out HB.out).mono ?_
    rw [HLL.out]
    rintro e w1 ⟨v1, L1, rfl, hL1, hst1, hx1⟩
    have hr1 := RdSt.of hst1
    rw [hL1] at hr1
    have hv1 : ∃ A c, v1 = .slice A n c := by
      obtain ⟨A, c, h, _⟩ := hr1
      rw [HN.out] at h
      exact ⟨A, c, h⟩
    obtain ⟨A1, c1, rfl⟩ := hv1
    have HR1 := Lib.hid hr1
    have HX1 := Lib.hid hx1
    clear hst1 hL1 hr1 hx1
    go_wp2_with fail
    refine (stmts80 1 (.inr rfl) p HPK.out b _ _ (HT.out.ext HX1.out) (HB.out.ext HX1.out)).mono ?_
    rw [HMM.out]
    rintro e w2 ⟨v2, L2, rfl, hL2, hst2, hx2⟩
    have hr2 := RdSt.of hst2
    rw [hL2] at hr2
    have hv2 : ∃ A c, v2 = .slice A n c := by
      obtain ⟨A, c, h, _⟩ := hr2
      rw [HMN.out] at h
      exact ⟨A, c, h⟩
    obtain ⟨A2, c2, rfl⟩ := hv2
    have HR2 := Lib.hid hr2
    have HX2 := Lib.hid hx2
    clear hst2 hL2 hr2 hx2
    go_wp2
    go_loopw [9] (fun i wr => ∃ k, k ≤ n ∧ i = .int .i64 (k : Nat) ∧ Hid (Ext w2 wr)) (fun i _ => n - (intOf i).toNat)
    case atStart => exact ⟨0, by omega, rfl, Lib.hid (Ext.refl _)⟩
    case round =>
      obtain ⟨k, hk, rfl, HE⟩ := hrel
      by_cases hlt : k < n
      · obtain ⟨s, hs⟩ : ∃ s, l[k]? = some s := ⟨_, List.getElem?_eq_getElem (by rw [HN.out]; exact hlt)⟩
        obtain ⟨t, ht⟩ : ∃ t, m[k]? = some t := ⟨_, List.getElem?_eq_getElem (by rw [HMN.out]; exact hlt)⟩
        obtain ⟨e1, e2, e3⟩ := HK.out k s t hs ht
        obtain ⟨b1, o1, Aa1, ca1, rfl, s0, _, s2, s3, _⟩ := RdSt.at (HR1.out.ext (HX2.out.trans HE.out)) hs
        obtain ⟨b2, o2, Aa2, ca2, rfl, t0, _, t2, _, _⟩ := RdSt.at (HR2.out.ext HE.out) ht
        rw [e1] at s0
        rw [isS_eq, isS_eq] at e2
        obtain ⟨Y, y1, y2⟩ : ∃ Y : Bool, (s.op.toList == [68, 66]) = Y ∧ (t.op.toList == [68, 66]) = Y := ⟨_, e2, rfl⟩
        generalize s.op = so at *
        generalize t.op = top at *
        generalize t.label = tl at *
        generalize s.args.length = na at *
        have hna : (na : Int) ≤ 2 := by omega
        clear e1 e2 e3 hs ht
        cases Y
        all_goals
          go_wp2
          go_quiet (fail)
          go_wp2
          go_roundw
          case rel => exact ⟨k + 1, by omega, by go_num, Lib.hid (HE.out.drewN _)⟩
          case measure => simp [intOf]; omega
      · obtain rfl : k = n := by omega
        have HWX := Lib.hid ((HX1.out.trans HX2.out).trans HE.out)
        go_wp2_with (go_at_call 8; refine (alive_any _ (HT.out.ext HWX.out)).mono ?_; rintro e w3 ⟨rfl, hx3⟩)
        go_ret
        exact ⟨rfl, HWX.out.trans hx3⟩

theorem places_any (p : Int) (hp : i64ok p) (b : List Int) (v : Value) (w : World) (hT : Tab w) (hb : Byts w v b) : Calls Tryz.prog 7 #[.int .i64 p, v] w (RBool w true) := by
  by_cases h1 : (300 : Int) < b.length
  · obtain ⟨A, c, rfl, hc1, hc2, _⟩ := hb
    have HT := Lib.hid hT; clear hT
    go_enter Tryz.func7, Tryz.ntmps7
    go_wp2_with (go_at_call 8; refine (alive_any _ HT.out).mono ?_; rintro e w3 ⟨rfl, hx3⟩)
    go_ret
    exact ⟨rfl, hx3⟩
  by_cases h2 : p < 0
  · obtain ⟨A, c, rfl, hc1, hc2, _⟩ := hb
    have HT := Lib.hid hT; clear hT
    have g1 : (b.length : Int) ≤ 300 := by omega
    go_enter Tryz.func7, Tryz.ntmps7
    go_wp2_with (go_at_call 8; refine (alive_any _ HT.out).mono ?_; rintro e w3 ⟨rfl, hx3⟩)
    go_ret
    exact ⟨rfl, hx3⟩
  by_cases h3 : 65536 - (b.length : Int) < p
  · obtain ⟨A, c, rfl, hc1, hc2, _⟩ := hb
    have HT := Lib.hid hT; clear hT
    have g1 : (b.length : Int) ≤ 300 := by omega
    have g2 : 0 ≤ p := by omega
    go_enter Tryz.func7, Tryz.ntmps7
    go_wp2_with (go_at_call 8; refine (alive_any _ HT.out).mono ?_; rintro e w3 ⟨rfl, hx3⟩)
    go_ret
    exact ⟨rfl, hx3⟩
  exact places_main p hp b v w hT hb (by omega) (by omega) (by omega)
end Go.Proofs.YtnklmehphmidhaaGreatDoor
