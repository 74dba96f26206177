/- DisasmUndocumented: the plain law, and the walk. -/
import Derived.Test.YtnklmehphmidhaaGreatDoorMn
namespace Go.Proofs.YtnklmehphmidhaaGreatDoor
open Go.RowKit
set_option maxRecDepth 100000
set_option maxHeartbeats 2000000
set_option linter.unusedSimpArgs false
set_option linter.unusedVariables false

def noDb (d o : Int) : Bool := decide (sizeL (wordsS o) = 0) || !isS (nameOf (wordsD d o)) [68, 66]
theorem noDb_all : ((List.range 256).all (fun k => noDb 0 (k : Nat)) && (List.range 256).all (fun k => noDb 1 (k : Nat))) = true := by kernel_rfl
theorem noDb_at (d : Int) (hd : d = 0 ∨ d = 1) (o : Int) (h0 : 0 ≤ o) (h1 : o < 256) (hs : sizeL (wordsS o) ≠ 0) : isS (nameOf (wordsD d o)) [68, 66] = false := by
  obtain ⟨n, rfl⟩ := Int.eq_ofNat_of_zero_le h0
  have h := noDb_all
  simp only [Bool.and_eq_true] at h
  have key : noDb d (n : Nat) = true := by
    rcases hd with rfl | rfl
    · exact List.all_eq_true.1 h.1 n (List.mem_range.2 (by omega))
    · exact List.all_eq_true.1 h.2 n (List.mem_range.2 (by omega))
  unfold noDb at key
  simp only [Bool.or_eq_true, decide_eq_true_eq, Bool.not_eq_true'] at key
  rcases key with key | key
  · exact absurd key hs
  · exact key

theorem readS_one (b : List Int) (x : Int) (hb0 : b.getD 0 0 = x) (h1 : 0 < b.length) (h0 : sizeL (wordsS x) ≠ 0) (hl : sizeL (wordsS x) ≤ b.length) :
    readS b = (x, (if sizeL (wordsS x) = 1 then 0 else if sizeL (wordsS x) = 2 then b.getD 1 0 else b.getD 2 0 * 256 + b.getD 1 0), sizeL (wordsS x), 0) := by
  unfold readS
  rw [if_neg (by omega), hb0, if_neg h0, if_neg (by omega)]
/-- The plain law: an opcode alone. -/
theorem und_plain (d : Int) (hd : d = 0 ∨ d = 1) (b : List Int) (x : Int) (hx : 0 ≤ x ∧ x ≤ 255) (hb0 : b.getD 0 0 = x) (h1 : 0 < b.length) (h2 : b.length ≤ 3) (hl : 0 < sizeL (wordsS x) → sizeL (wordsS x) = b.length) :
    ∃ s1 rest, stmtsS (F80 d) d 0 b = (orgS 0 :: s1 :: rest, 0) ∧ isS s1.op [68, 66] = (sizeL (wordsS x) == 0) ∧ (0 < sizeL (wordsS x) → rest = []) := by
  have hsr := sizeL_range (wordsS x)
  obtain ⟨f', _, hc⟩ := sweepS_cons (F80 d) b.length 0 b h1 (Nat.le_refl _)
  have hst : stmtsS (F80 d) d 0 b = (allS (sweepS (F80 d) b.length 0 b) 0, 0) := by
    unfold stmtsS
    rw [if_neg (by omega), if_neg (by omega), if_neg (by omega)]
  rw [hst, hc]
  unfold allS
  rw [List.map_cons]
  refine ⟨_, _, rfl, ?_, ?_⟩
  · show isS (F80 d 0 b).op [68, 66] = _
    by_cases h0 : sizeL (wordsS x) = 0
    · have : (readS b).2.2.2 ≠ 0 := by
        unfold readS
        rw [if_neg (by omega), hb0, if_pos h0]; simp
      unfold F80
      rw [if_pos this, h0]; rfl
    · have hrd := readS_one b x hb0 h1 h0 (by have := hl (by omega); omega)
      unfold F80
      rw [hrd]
      simp only
      rw [if_neg (by simp)]
      simp only
      rw [noDb_at d hd x hx.1 (by omega) h0]
      simp [h0]
  · intro hp
    have h0 : sizeL (wordsS x) ≠ 0 := by omega
    have hz : (F80 d 0 b).size = sizeL (wordsS x) := by
      have hrd := readS_one b x hb0 h1 h0 (by have := hl hp; omega)
      unfold F80
      rw [hrd]
      simp
    have hd0 : (b.drop (F80 d 0 b).size.toNat).length = 0 := by
      rw [List.length_drop, hz]
      have := hl hp
      omega
    rw [sweepS_nil (F80 d) f' _ _ hd0]
    rfl

theorem stmts_cells {w : World} {v : Value} {l : List SR} (h : RdSt w v l) (h2 : 2 ≤ l.length) : ∃ b o c, v = .slice (some ⟨b, o, none⟩) l.length c ∧ w.cell? ⟨b, o + 4 + 2, none⟩ = some (.string (l.getD 1 ⟨⟨#[]⟩, false, ⟨#[]⟩, []⟩).op) := by
  obtain ⟨A, c, rfl, h3⟩ := h
  obtain ⟨b, o, rfl, hb, hc⟩ := h3 (by omega)
  have hs : l[1]? = some (l.getD 1 ⟨⟨#[]⟩, false, ⟨#[]⟩, []⟩) := by simp [List.getElem?_eq_getElem (show 1 < l.length by omega)]
  obtain ⟨va, _, _, c2, _⟩ := hc 1 _ hs
  exact ⟨b, o, c, rfl, by simpa using c2⟩

theorem und_any (x n : Int) (hx : 0 ≤ x ∧ x ≤ 255) (hn : 0 ≤ n ∧ n ≤ 65535) (w : World) (hT : Tab w) : Calls Tryz.prog 6 #[.int .u8 x, .int .u16 n] w (RBool w true) := by
  have HT := Lib.hid hT; clear hT
  have HX := Lib.hid hx
  have hx0 := hx.1
  have hx1 := hx.2
  have hn0 := hn.1
  have hn1 := hn.2
  clear hx
  have hsr := sizeL_range (wordsS x)
  have HPL := Lib.hid (fun d hd b => und_plain d hd b x HX.out)
  obtain ⟨sz, hsz⟩ : ∃ sz : Nat, sizeL (wordsS x) = sz := ⟨(sizeL (wordsS x)).toNat, by omega⟩
  rw [hsz] at hsr HPL
  have HSZ := Lib.hid hsz; clear hsz
  have hrg : ∀ y ∈ [x, n % 256, n / 256], 0 ≤ y ∧ y ≤ 255 := by
    intro y hy
    simp only [List.mem_cons, List.mem_nil_iff, or_false] at hy
    rcases hy with rfl | rfl | rfl <;> omega
  have HBY := Lib.hid (Byts.alloc w [x, n % 256, n / 256] (by simp) hrg 5 #[.int .u8 x, .int .u8 (n % 256), .int .u8 (n / 256)] rfl 3 rfl)
  have HRG := Lib.hid hrg; clear hrg
  by_cases h0 : (0 : Int) < sz
  · have HBT : Hid (∀ W, Ext (w.alloc (.cells #[.int .u8 x, .int .u8 (n % 256), .int .u8 (n / 256)] 5)) W → Byts W (.slice (some ⟨w.heap.size, 0, none⟩) sz 3) ([x, n % 256, n / 256].take sz)) := Lib.hid (by
      intro W hW
      obtain ⟨A, c, hv, h1, h2, h3, h4⟩ := HBY.out.ext hW
      injection hv with e1 e2 e3
      subst e1; subst e3
      obtain ⟨b, o, hbo, hlt, hc⟩ := h4 (by simp)
      have hle : ([x, n % 256, n / 256].take sz).length = sz := by rw [List.length_take]; simp; omega
      refine ⟨_, _, by rw [hle], by rw [hle]; omega, h2, fun y hy => h3 y (List.mem_of_mem_take hy), fun _ => ⟨b, o, hbo, hlt, fun j hj => ?_⟩⟩
      rw [hle] at hj
      rw [hc j (by simp; omega)]
      have ht : [x, n % 256, n / 256].getD j 0 = ([x, n % 256, n / 256].take sz).getD j 0 := by
        rw [List.getD_eq_getElem?_getD, List.getD_eq_getElem?_getD, List.getElem?_take_of_lt hj]
      rw [ht])
    have hszb : ((sz : Int) == 0) = false := by simp; omega
    have hdec : decide (0 < sz) = true := by simp; omega
    have hdec2 : decide ((0 : Int) < sz) = true := by simp; omega
    have HPD : Hid (∀ d, d = 0 ∨ d = 1 → ∃ s1, stmtsS (F80 d) d 0 ([x, n % 256, n / 256].take sz) = ([orgS 0, s1], 0) ∧ (s1.op.toList == [68, 66]) = false) := Lib.hid (by
      intro d hd
      have hle : ([x, n % 256, n / 256].take sz).length = sz := by rw [List.length_take]; simp; omega
      obtain ⟨s1, rest, h1, h2, h3⟩ := HPL.out d hd ([x, n % 256, n / 256].take sz) (by
        obtain ⟨m, rfl⟩ : ∃ m, sz = m + 1 := ⟨sz - 1, by omega⟩
        rfl) (by omega) (by omega) (by intro _; rw [hle])
      rw [h3 h0] at h1
      exact ⟨s1, h1, by rw [← isS_eq, h2, hszb]⟩)
    go_enter Tryz.func6, Tryz.ntmps6
    go_wp2_with (go_at_call 15; refine (size_any x hx0 (by omega) _).mono ?_; rw [HSZ.out]; rintro e w1 ⟨rfl, hx1⟩)
    have HX1 := Lib.hid hx1; clear hx1
    go_loopw [7] (fun i wr => ∃ k, k ≤ 2 ∧ i = .int .i64 (k : Nat) ∧ Hid (Ext w1 wr)) (fun i _ => 2 - (intOf i).toNat)
    case atStart => exact ⟨0, by omega, rfl, Lib.hid (Ext.refl _)⟩
    case round =>
      obtain ⟨k, hk, rfl, HE⟩ := hrel
      by_cases hlt : k < 2
      · have hd : (k : Int) = 0 ∨ (k : Int) = 1 := by omega
        obtain ⟨s1, hs1, hop⟩ := HPD.out k hd
        have HS1 := Lib.hid hs1; clear hs1
        go_wp2_with (go_at_call 9; refine (stmts80 k hd 0 (by unfold i64ok; omega) _ _ _ (HT.out.ext (((Ext.refl _).alloc _).trans (HX1.out.trans HE.out))) (HBT.out _ (HX1.out.trans HE.out))).mono ?_; rw [HS1.out]; rintro e w2 ⟨v2, L2, rfl, hL2, hst, hx2⟩; have hr2 := RdSt.of hst; rw [hL2] at hr2; obtain ⟨b2, o2, c2, rfl, hc2⟩ := stmts_cells hr2 (by simp); have hc3 : w2.cell? ⟨b2, o2 + 4 + 2, none⟩ = some (.string s1.op) := hc2; clear hc2 hr2 hst hL2)
        go_roundw
        case rel => exact ⟨k + 1, by omega, by go_num, Lib.hid (HE.out.trans hx2)⟩
        case measure => simp [intOf]; omega
      · obtain rfl : k = 2 := by omega
        have HWX := Lib.hid (((Ext.refl w).alloc (.cells #[.int .u8 x, .int .u8 (n % 256), .int .u8 (n / 256)] 5)).trans (HX1.out.trans HE.out))
        go_wp2_with (go_at_call 8; refine (alive_any _ (HT.out.ext HWX.out)).mono ?_; rintro e w3 ⟨rfl, hx3⟩)
        go_ret
        exact ⟨rfl, HWX.out.trans hx3⟩
  · obtain rfl : sz = 0 := by omega
    have HPD : Hid (∀ d, d = 0 ∨ d = 1 → ∃ s1 rest, stmtsS (F80 d) d 0 [x, n % 256, n / 256] = (orgS 0 :: s1 :: rest, 0) ∧ (s1.op.toList == [68, 66]) = true) := Lib.hid (by
      intro d hd
      obtain ⟨s1, rest, h1, h2, h3⟩ := HPL.out d hd [x, n % 256, n / 256] rfl (by simp) (by simp) (by intro h; omega)
      exact ⟨s1, rest, h1, by rw [← isS_eq, h2]; rfl⟩)
    go_enter Tryz.func6, Tryz.ntmps6
    go_wp2_with (go_at_call 15; refine (size_any x hx0 (by omega) _).mono ?_; rw [HSZ.out]; rintro e w1 ⟨rfl, hx1⟩)
    have HX1 := Lib.hid hx1; clear hx1
    go_loopw [7] (fun i wr => ∃ k, k ≤ 2 ∧ i = .int .i64 (k : Nat) ∧ Hid (Ext w1 wr)) (fun i _ => 2 - (intOf i).toNat)
    case atStart => exact ⟨0, by omega, rfl, Lib.hid (Ext.refl _)⟩
    case round =>
      obtain ⟨k, hk, rfl, HE⟩ := hrel
      by_cases hlt : k < 2
      · have hd : (k : Int) = 0 ∨ (k : Int) = 1 := by omega
        obtain ⟨s1, rest, hs1, hop⟩ := HPD.out k hd
        have HS1 := Lib.hid hs1; clear hs1
        go_wp2_with (go_at_call 9; refine (stmts80 k hd 0 (by unfold i64ok; omega) _ _ _ (HT.out.ext (((Ext.refl _).alloc _).trans (HX1.out.trans HE.out))) (HBY.out.ext (HX1.out.trans HE.out))).mono ?_; rw [HS1.out]; rintro e w2 ⟨v2, L2, rfl, hL2, hst, hx2⟩; have hr2 := RdSt.of hst; rw [hL2] at hr2; obtain ⟨b2, o2, c2, rfl, hc2⟩ := stmts_cells hr2 (by simp); have hc3 : w2.cell? ⟨b2, o2 + 4 + 2, none⟩ = some (.string s1.op) := hc2; have hlen : 2 ≤ (orgS 0 :: s1 :: rest).length := (by simp); generalize (orgS 0 :: s1 :: rest).length = n2 at *; clear hc2 hr2 hst hL2)
        go_roundw
        case rel => exact ⟨k + 1, by omega, by go_num, Lib.hid (HE.out.trans hx2)⟩
        case measure => simp [intOf]; omega
      · obtain rfl : k = 2 := by omega
        have HWX := Lib.hid (((Ext.refl w).alloc (.cells #[.int .u8 x, .int .u8 (n % 256), .int .u8 (n / 256)] 5)).trans (HX1.out.trans HE.out))
        go_wp2_with (go_at_call 8; refine (alive_any _ (HT.out.ext HWX.out)).mono ?_; rintro e w3 ⟨rfl, hx3⟩)
        go_ret
        exact ⟨rfl, HWX.out.trans hx3⟩
end Go.Proofs.YtnklmehphmidhaaGreatDoor
