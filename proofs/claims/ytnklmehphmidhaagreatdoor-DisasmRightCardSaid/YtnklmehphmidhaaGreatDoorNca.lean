/- disasm: the first instruction of the 8086's. -/
import Derived.Test.YtnklmehphmidhaaGreatDoorIzl
import Derived.Test.YtnklmehphmidhaaGreatDoorNab
import Derived.Test.YtnklmehphmidhaaGreatDoorNba
namespace Go.Proofs.YtnklmehphmidhaaGreatDoor
open Go.RowKit
set_option maxRecDepth 100000
set_option maxHeartbeats 4000000
set_option linter.unusedSimpArgs false
set_option linter.unusedVariables false

theorem index106_0 (a b : Int) (w : World) : (Instr.index 106 (.agg #[.int .i64 a, .int .i64 b]) (.int .i64 0)).run Tryz.prog w = .ok (.int .i64 a) w := by kernel_rfl
theorem index106_1 (a b : Int) (w : World) : (Instr.index 106 (.agg #[.int .i64 a, .int .i64 b]) (.int .i64 1)).run Tryz.prog w = .ok (.int .i64 b) w := by kernel_rfl
theorem first86_n (p : Int) (hp0 : 0 ≤ p) (b : List Int) (hpl : p + b.length ≤ 65536) (v : Value) (w : World) (hT : Tab w) (hb : Byts w v b) (hp : 0 < b.length) (op d s n size : Int) (hr : read86S b = ⟨op, d, s, n, size, 0⟩)
    (ho : 0 ≤ op ∧ op ≤ 55) (hd : 0 ≤ d ∧ d ≤ 20) (hs : 0 ≤ s ∧ s ≤ 20) (hn : 0 ≤ n ∧ n ≤ 65535) (hz : 1 ≤ size ∧ size ≤ b.length) (hJ : jumps86 op = false) (N : Int) (hN : n = N) (name : ByteArray) (hnm : name86 op = name) :
    Calls Tryz.prog 39 #[.int .i64 p, v] w (RPiece w name (code86 d N ++ code86 s N) size (-1)) := by
  have HNM := Lib.hid hnm; have HR := Lib.hid hr; have HB := Lib.hid hb; have HT := Lib.hid hT; have HJ := Lib.hid hJ
  clear hnm hr hT hJ
  obtain ⟨i0, hi0, hz0, hz1, hz2⟩ := info_parts Tryz.info41
  obtain ⟨A, c, rfl, _⟩ := hb
  generalize b.length = L at *
  have hN2 := hN.symm; subst hN2
  have hi106 := index106_0
  have hi107 := index106_1
  go_enter Tryz.func39, Tryz.ntmps39
  go_wp2_with (first
    | (go_at_call 70; refine (read86_any _ _ b (HB.out.ext (by with_reducible exact (Ext.refl _).alloc _))).mono ?_; rw [HR.out]; rintro e w1 ⟨rfl, hx1⟩; have hB1 := (Blk.new _ _ _).ext hx1)
    | (go_at_call 72; refine (jumps86_any op d s _ _).mono ?_; rw [HJ.out]; rintro e w2 ⟨rfl, hx2⟩; have hB2 := (Blk.new _ _ _).ext hx2; have hB1b := (hB1.alloc _).ext hx2; have k2 := hB2.cell; have f2 := hB2.frozen; have lt1 := hB1.lt; have hxw : Ext w w2 := ((((Ext.refl w).alloc _).trans hx1).alloc _).trans hx2)
    | (go_at_call 73; refine (name86_any op ho.1 ho.2 _ (HT.out.ext hxw)).mono ?_; rw [HNM.out]; rintro e w4 ⟨rfl, hx4⟩; have hB3 := hB2.ext hx4; have hB0 := hB1b.ext hx4; have hxw4 := hxw.trans hx4)
    | (go_at_call 17; refine (stmt_any _ _ _ _ _).mono ?_; rintro e w5 ⟨rfl, hx5⟩; have k30 := ((hB3.ext hx5).alloc (.cells #[.string ⟨#[]⟩, .bool false, .string name, .slice none 0 0] 31)).cell))
  clear k30
  have HT4 := Lib.hid (HT.out.ext hxw4)
  have lt5 := hx5.size
  have lt4 := hB3.lt
  have lt0 := hB0.lt
  clear hB1 hB1b hB2 k2 f2 hx1 hx2 hx4
  have E0 : Ext w4 (w5.alloc (.cells #[.string ⟨#[]⟩, .bool false, .string name, .slice none 0 0] 31)) := hx5.alloc _
  have B5 := Blk.new w5 #[.string ⟨#[]⟩, .bool false, .string name, .slice none 0 0] 31
  have A5 := Args.nil (w5.alloc (.cells #[.string ⟨#[]⟩, .bool false, .string name, .slice none 0 0] 31)) (w5.heap.size + 1)
  go_loopw [51] (fun i wr => ∃ (k : Nat) (va : Value) (lk : List AR), k ≤ 2 ∧ i = .int .i64 k ∧ Hid (lk = if k = 0 then [] else if k = 1 then code86 d N else code86 d N ++ code86 s N) ∧ lk.length ≤ k ∧ Ext w4 wr ∧ w5.heap.size < wr.heap.size ∧ Blk wr w5.heap.size #[.string ⟨#[]⟩, .bool false, .string name, va] ∧ Args wr (w5.heap.size + 1) va lk) (fun i _ => 2 - (intOf i).toNat)
  case atStart => exact ⟨0, _, [], by omega, rfl, Lib.hid rfl, by simp, E0, by simp, B5, A5⟩
  case round =>
    obtain ⟨k, va, lk, hk, rfl, HLK, hlk, E, hsz, B, HA⟩ := hrel
    obtain ⟨Av, cv, rfl⟩ := HA.slice
    generalize hq : lk.length = q at *
    have HLEN := Lib.hid hq; clear hq
    have k5 := B.cell 3
    have kn := (hB3.ext E).cell 3
    have f5 := B.frozen
    clear B5 A5 E0
    rcases (by omega : k = 0 ∨ k = 1 ∨ k = 2) with rfl | rfl | rfl
    · rw [if_pos rfl] at HLK
      have e_d : ∀ N, code86 d N = if d = 0 then [] else if d = 19 then [operandS ⟨#[40, 110, 41]⟩ N] else if d = 20 then [operandS ⟨#[110]⟩ N] else [operandS (arg86 d) 0] := fun _ => rfl
      by_cases c0 : d = 0
      · have HCX : Hid (code86 d N = []) := Lib.hid (by rw [e_d, if_pos c0])
        have b0 : (d == 0) = true := by simpa using c0
        clear e_d c0
        go_wp2
        go_roundw
        case rel => exact ⟨1, .slice Av q cv, lk, by omega, by first | rfl | go_num, Lib.hid (by rw [HLK.out, HCX.out]; simp), by have := HLEN.out; omega, E, hsz, B, HA⟩
        case measure => simp [intOf]
      have b0 : (d == 0) = false := by simpa using c0
      by_cases c19 : d = 19
      · have HCX : Hid (code86 d N = [operandS ⟨#[40, 110, 41]⟩ N]) := Lib.hid (by rw [e_d, if_neg c0, if_pos c19])
        have b19 : (d == 19) = true := by simpa using c19
        clear c19
        clear e_d
        generalize hx : operandS ⟨#[40, 110, 41]⟩ N = x
        have HX := Lib.hid hx; clear hx
        go_wp2
        have hN : ∀ g : Nat, g < w5.heap.size + 1 → some g ≠ (Value.slice Av q cv).ownBlock := fun g hg e => by have := (World.ownsRow.lt HA) g e.symm; omega
        have HN := Lib.hid hN; clear hN
        have hsz6 : w1.heap.size < wr.heap.size := by have := E.size; omega
        go_region_law (first
          | (refine step_append_lies _ (by rfl) _ _ _ (by rfl) (w5.heap.size + 1) 41 i0 _ 8 104 Tryz.underlying29 hi0 hz0 hz1 hz2 rfl (by omega) (.slice Av q cv) q _ (by rfl) ((Args.own (Args.ext (Args.drew HA) hx6) HLEN.out).alloc _) ⟨w6.heap.size, 0, none⟩ 1 1 [.string x.word, .string ⟨#[]⟩, .bool false, .bool x.mem, .string x.op, .int .u16 x.n, .string x.name, .slice none 0 0] (by rfl) (by rfl) (World.news_of_block (cs := #[.string x.word, .string ⟨#[]⟩, .bool false, .bool x.mem, .string x.op, .int .u16 x.n, .string x.name, .slice none 0 0]) (t := 41) (fr := (0, 0)) (heap_alloc_new w6 _)) (by simp [Value.oneCell']) (by omega) (by unfold maxLen; omega) (by omega) (by simp; omega) (w6.heap.size + 1) (by simp) ?_; intro gg cap w7 hown7 hgrow hat hlt7; have B7 := ((B.drew.ext hx6).alloc _).grown hgrow (HN.out _ (by omega)); have f7 := B7.frozen; have k7 := B7.cell 3; have HG := Lib.hid hgrow; have HAT := Lib.hid hat; have HO := Lib.hid hown7; clear hgrow hat hown7)
          | (go_simp; go_at_call 18; refine (operand_any _ _ _).mono ?_; rw [HX.out]; rintro e w6 ⟨rfl, hxa⟩; have hx6 := hxa; have sz6 : wr.heap.size ≤ w6.heap.size := hx6.size; have k6 := hx6.cell (p := ⟨w5.heap.size, 3, none⟩) k5; have l6 : w5.heap.size < w6.heap.size := Nat.lt_of_lt_of_le hsz sz6; have kn6 := hx6.cell (p := ⟨w1.heap.size, 3, none⟩) kn))
        all_goals
          go_wp2
          go_roundw
          case rel =>
            have hx7 : Ext w4 w7 := ext_grown ((E.drew.trans hx6).alloc _) HG.out (by intro g hg; have := (World.ownsRow.lt HA) g hg; omega)
            have hgg : w5.heap.size + 1 ≤ gg := by
              rcases HAT.out with h | h
              · exact ((World.ownsRow.lt HA) gg h).1
              · omega
            refine ⟨1, .slice (some ⟨gg, 0, none⟩) (q + 1) cap, lk ++ [x], by omega, by first | rfl | go_num, ?_, ?_, ?_, ?_, ?_, ?_⟩
            · exact Lib.hid (by rw [HLK.out, HCX.out, HX.out]; simp)
            · rw [show (lk ++ [x]).length = q + 1 by rw [List.length_append, HLEN.out]; rfl]; omega
            · exact hx7.setCell (by simp; omega) _
            · simp; omega
            · exact B7.put 3 _
            · refine Args.setCell ?_ _ _ (by simp [Value.ownBlock]; omega)
              exact Args.snoc HO.out HLEN.out
          case measure => simp [intOf]
      have b19 : (d == 19) = false := by simpa using c19
      by_cases c20 : d = 20
      · have HCX : Hid (code86 d N = [operandS ⟨#[110]⟩ N]) := Lib.hid (by rw [e_d, if_neg c0, if_neg c19, if_pos c20])
        have b20 : (d == 20) = true := by simpa using c20
        clear e_d c20
        generalize hx : operandS ⟨#[110]⟩ N = x
        have HX := Lib.hid hx; clear hx
        go_wp2
        have hN : ∀ g : Nat, g < w5.heap.size + 1 → some g ≠ (Value.slice Av q cv).ownBlock := fun g hg e => by have := (World.ownsRow.lt HA) g e.symm; omega
        have HN := Lib.hid hN; clear hN
        have hsz6 : w1.heap.size < wr.heap.size := by have := E.size; omega
        go_region_law (first
          | (refine step_append_lies _ (by rfl) _ _ _ (by rfl) (w5.heap.size + 1) 41 i0 _ 8 104 Tryz.underlying29 hi0 hz0 hz1 hz2 rfl (by omega) (.slice Av q cv) q _ (by rfl) ((Args.own (Args.ext (Args.drew HA) hx6) HLEN.out).alloc _) ⟨w6.heap.size, 0, none⟩ 1 1 [.string x.word, .string ⟨#[]⟩, .bool false, .bool x.mem, .string x.op, .int .u16 x.n, .string x.name, .slice none 0 0] (by rfl) (by rfl) (World.news_of_block (cs := #[.string x.word, .string ⟨#[]⟩, .bool false, .bool x.mem, .string x.op, .int .u16 x.n, .string x.name, .slice none 0 0]) (t := 41) (fr := (0, 0)) (heap_alloc_new w6 _)) (by simp [Value.oneCell']) (by omega) (by unfold maxLen; omega) (by omega) (by simp; omega) (w6.heap.size + 1) (by simp) ?_; intro gg cap w7 hown7 hgrow hat hlt7; have B7 := ((B.drew.ext hx6).alloc _).grown hgrow (HN.out _ (by omega)); have f7 := B7.frozen; have k7 := B7.cell 3; have HG := Lib.hid hgrow; have HAT := Lib.hid hat; have HO := Lib.hid hown7; clear hgrow hat hown7)
          | (go_simp; go_at_call 18; refine (operand_any _ _ _).mono ?_; rw [HX.out]; rintro e w6 ⟨rfl, hxa⟩; have hx6 := hxa; have sz6 : wr.heap.size ≤ w6.heap.size := hx6.size; have k6 := hx6.cell (p := ⟨w5.heap.size, 3, none⟩) k5; have l6 : w5.heap.size < w6.heap.size := Nat.lt_of_lt_of_le hsz sz6; have kn6 := hx6.cell (p := ⟨w1.heap.size, 3, none⟩) kn))
        all_goals
          go_wp2
          go_roundw
          case rel =>
            have hx7 : Ext w4 w7 := ext_grown ((E.drew.trans hx6).alloc _) HG.out (by intro g hg; have := (World.ownsRow.lt HA) g hg; omega)
            have hgg : w5.heap.size + 1 ≤ gg := by
              rcases HAT.out with h | h
              · exact ((World.ownsRow.lt HA) gg h).1
              · omega
            refine ⟨1, .slice (some ⟨gg, 0, none⟩) (q + 1) cap, lk ++ [x], by omega, by first | rfl | go_num, ?_, ?_, ?_, ?_, ?_, ?_⟩
            · exact Lib.hid (by rw [HLK.out, HCX.out, HX.out]; simp)
            · rw [show (lk ++ [x]).length = q + 1 by rw [List.length_append, HLEN.out]; rfl]; omega
            · exact hx7.setCell (by simp; omega) _
            · simp; omega
            · exact B7.put 3 _
            · refine Args.setCell ?_ _ _ (by simp [Value.ownBlock]; omega)
              exact Args.snoc HO.out HLEN.out
          case measure => simp [intOf]
      have b20 : (d == 20) = false := by simpa using c20
      have HCX : Hid (code86 d N = [operandS (arg86 d) 0]) := Lib.hid (by rw [e_d, if_neg c0, if_neg c19, if_neg c20])
      clear e_d
      generalize hx : operandS (arg86 d) 0 = x
      have HX := Lib.hid hx; clear hx
      generalize hag : arg86 d = ag at *
      have HAG := Lib.hid hag; clear hag
      go_wp2
      have hN : ∀ g : Nat, g < w5.heap.size + 1 → some g ≠ (Value.slice Av q cv).ownBlock := fun g hg e => by have := (World.ownsRow.lt HA) g e.symm; omega
      have HN := Lib.hid hN; clear hN
      have hsz6 : w1.heap.size < wr.heap.size := by have := E.size; omega
      go_region_law (first
        | (refine step_append_lies _ (by rfl) _ _ _ (by rfl) (w5.heap.size + 1) 41 i0 _ 8 104 Tryz.underlying29 hi0 hz0 hz1 hz2 rfl (by omega) (.slice Av q cv) q _ (by rfl) ((Args.own (Args.ext (Args.drew HA) hx6) HLEN.out).alloc _) ⟨w6.heap.size, 0, none⟩ 1 1 [.string x.word, .string ⟨#[]⟩, .bool false, .bool x.mem, .string x.op, .int .u16 x.n, .string x.name, .slice none 0 0] (by rfl) (by rfl) (World.news_of_block (cs := #[.string x.word, .string ⟨#[]⟩, .bool false, .bool x.mem, .string x.op, .int .u16 x.n, .string x.name, .slice none 0 0]) (t := 41) (fr := (0, 0)) (heap_alloc_new w6 _)) (by simp [Value.oneCell']) (by omega) (by unfold maxLen; omega) (by omega) (by simp; omega) (w6.heap.size + 1) (by simp) ?_; intro gg cap w7 hown7 hgrow hat hlt7; have B7 := ((B.drew.ext hx6).alloc _).grown hgrow (HN.out _ (by omega)); have f7 := B7.frozen; have k7 := B7.cell 3; have HG := Lib.hid hgrow; have HAT := Lib.hid hat; have HO := Lib.hid hown7; clear hgrow hat hown7)
        | (go_simp; go_at_call 74; refine (arg86_any d (by omega) (by omega) _ (HT4.out.ext (E.trans (ext_drew wr)))).mono ?_; rw [HAG.out]; rintro e wa ⟨rfl, hxe⟩; have hya := hxe; have sza : wr.heap.size ≤ wa.heap.size := hya.size; have ka5 := hya.cell (p := ⟨w5.heap.size, 3, none⟩) k5; have la : w5.heap.size < wa.heap.size := Nat.lt_of_lt_of_le hsz sza)
        | (go_simp; go_at_call 18; refine (operand_any _ _ _).mono ?_; rw [HX.out]; rintro e w6 ⟨rfl, hxa⟩; have hx6 := hya.trans hxa; have sz6 : wr.heap.size ≤ w6.heap.size := hx6.size; have k6 := hx6.cell (p := ⟨w5.heap.size, 3, none⟩) k5; have l6 : w5.heap.size < w6.heap.size := Nat.lt_of_lt_of_le hsz sz6; have kn6 := hx6.cell (p := ⟨w1.heap.size, 3, none⟩) kn))
      all_goals
        go_wp2
        go_roundw
        case rel =>
          have hx7 : Ext w4 w7 := ext_grown ((E.drew.trans hx6).alloc _) HG.out (by intro g hg; have := (World.ownsRow.lt HA) g hg; omega)
          have hgg : w5.heap.size + 1 ≤ gg := by
            rcases HAT.out with h | h
            · exact ((World.ownsRow.lt HA) gg h).1
            · omega
          refine ⟨1, .slice (some ⟨gg, 0, none⟩) (q + 1) cap, lk ++ [x], by omega, by first | rfl | go_num, ?_, ?_, ?_, ?_, ?_, ?_⟩
          · exact Lib.hid (by rw [HLK.out, HCX.out, HX.out]; simp)
          · rw [show (lk ++ [x]).length = q + 1 by rw [List.length_append, HLEN.out]; rfl]; omega
          · exact hx7.setCell (by simp; omega) _
          · simp; omega
          · exact B7.put 3 _
          · refine Args.setCell ?_ _ _ (by simp [Value.ownBlock]; omega)
            exact Args.snoc HO.out HLEN.out
        case measure => simp [intOf]
    · rw [if_neg (by decide), if_pos rfl] at HLK
      have e_s : ∀ N, code86 s N = if s = 0 then [] else if s = 19 then [operandS ⟨#[40, 110, 41]⟩ N] else if s = 20 then [operandS ⟨#[110]⟩ N] else [operandS (arg86 s) 0] := fun _ => rfl
      by_cases c0 : s = 0
      · have HCX : Hid (code86 s N = []) := Lib.hid (by rw [e_s, if_pos c0])
        have b0 : (s == 0) = true := by simpa using c0
        clear e_s c0
        go_wp2
        go_roundw
        case rel => exact ⟨2, .slice Av q cv, lk, by omega, by first | rfl | go_num, Lib.hid (by rw [HLK.out, HCX.out]; simp), by have := HLEN.out; omega, E, hsz, B, HA⟩
        case measure => simp [intOf]
      have b0 : (s == 0) = false := by simpa using c0
      by_cases c19 : s = 19
      · have HCX : Hid (code86 s N = [operandS ⟨#[40, 110, 41]⟩ N]) := Lib.hid (by rw [e_s, if_neg c0, if_pos c19])
        have b19 : (s == 19) = true := by simpa using c19
        clear c19
        clear e_s
        generalize hx : operandS ⟨#[40, 110, 41]⟩ N = x
        have HX := Lib.hid hx; clear hx
        go_wp2
        have hN : ∀ g : Nat, g < w5.heap.size + 1 → some g ≠ (Value.slice Av q cv).ownBlock := fun g hg e => by have := (World.ownsRow.lt HA) g e.symm; omega
        have HN := Lib.hid hN; clear hN
        have hsz6 : w1.heap.size < wr.heap.size := by have := E.size; omega
        go_region_law (first
          | (refine step_append_lies _ (by rfl) _ _ _ (by rfl) (w5.heap.size + 1) 41 i0 _ 8 104 Tryz.underlying29 hi0 hz0 hz1 hz2 rfl (by omega) (.slice Av q cv) q _ (by rfl) ((Args.own (Args.ext (Args.drew HA) hx6) HLEN.out).alloc _) ⟨w6.heap.size, 0, none⟩ 1 1 [.string x.word, .string ⟨#[]⟩, .bool false, .bool x.mem, .string x.op, .int .u16 x.n, .string x.name, .slice none 0 0] (by rfl) (by rfl) (World.news_of_block (cs := #[.string x.word, .string ⟨#[]⟩, .bool false, .bool x.mem, .string x.op, .int .u16 x.n, .string x.name, .slice none 0 0]) (t := 41) (fr := (0, 0)) (heap_alloc_new w6 _)) (by simp [Value.oneCell']) (by omega) (by unfold maxLen; omega) (by omega) (by simp; omega) (w6.heap.size + 1) (by simp) ?_; intro gg cap w7 hown7 hgrow hat hlt7; have B7 := ((B.drew.ext hx6).alloc _).grown hgrow (HN.out _ (by omega)); have f7 := B7.frozen; have k7 := B7.cell 3; have HG := Lib.hid hgrow; have HAT := Lib.hid hat; have HO := Lib.hid hown7; clear hgrow hat hown7)
          | (go_simp; go_at_call 18; refine (operand_any _ _ _).mono ?_; rw [HX.out]; rintro e w6 ⟨rfl, hxa⟩; have hx6 := hxa; have sz6 : wr.heap.size ≤ w6.heap.size := hx6.size; have k6 := hx6.cell (p := ⟨w5.heap.size, 3, none⟩) k5; have l6 : w5.heap.size < w6.heap.size := Nat.lt_of_lt_of_le hsz sz6; have kn6 := hx6.cell (p := ⟨w1.heap.size, 3, none⟩) kn))
        all_goals
          go_wp2
          go_roundw
          case rel =>
            have hx7 : Ext w4 w7 := ext_grown ((E.drew.trans hx6).alloc _) HG.out (by intro g hg; have := (World.ownsRow.lt HA) g hg; omega)
            have hgg : w5.heap.size + 1 ≤ gg := by
              rcases HAT.out with h | h
              · exact ((World.ownsRow.lt HA) gg h).1
              · omega
            refine ⟨2, .slice (some ⟨gg, 0, none⟩) (q + 1) cap, lk ++ [x], by omega, by first | rfl | go_num, ?_, ?_, ?_, ?_, ?_, ?_⟩
            · exact Lib.hid (by rw [HLK.out, HCX.out, HX.out]; simp)
            · rw [show (lk ++ [x]).length = q + 1 by rw [List.length_append, HLEN.out]; rfl]; omega
            · exact hx7.setCell (by simp; omega) _
            · simp; omega
            · exact B7.put 3 _
            · refine Args.setCell ?_ _ _ (by simp [Value.ownBlock]; omega)
              exact Args.snoc HO.out HLEN.out
          case measure => simp [intOf]
      have b19 : (s == 19) = false := by simpa using c19
      by_cases c20 : s = 20
      · have HCX : Hid (code86 s N = [operandS ⟨#[110]⟩ N]) := Lib.hid (by rw [e_s, if_neg c0, if_neg c19, if_pos c20])
        have b20 : (s == 20) = true := by simpa using c20
        clear e_s c20
        generalize hx : operandS ⟨#[110]⟩ N = x
        have HX := Lib.hid hx; clear hx
        go_wp2
        have hN : ∀ g : Nat, g < w5.heap.size + 1 → some g ≠ (Value.slice Av q cv).ownBlock := fun g hg e => by have := (World.ownsRow.lt HA) g e.symm; omega
        have HN := Lib.hid hN; clear hN
        have hsz6 : w1.heap.size < wr.heap.size := by have := E.size; omega
        go_region_law (first
          | (refine step_append_lies _ (by rfl) _ _ _ (by rfl) (w5.heap.size + 1) 41 i0 _ 8 104 Tryz.underlying29 hi0 hz0 hz1 hz2 rfl (by omega) (.slice Av q cv) q _ (by rfl) ((Args.own (Args.ext (Args.drew HA) hx6) HLEN.out).alloc _) ⟨w6.heap.size, 0, none⟩ 1 1 [.string x.word, .string ⟨#[]⟩, .bool false, .bool x.mem, .string x.op, .int .u16 x.n, .string x.name, .slice none 0 0] (by rfl) (by rfl) (World.news_of_block (cs := #[.string x.word, .string ⟨#[]⟩, .bool false, .bool x.mem, .string x.op, .int .u16 x.n, .string x.name, .slice none 0 0]) (t := 41) (fr := (0, 0)) (heap_alloc_new w6 _)) (by simp [Value.oneCell']) (by omega) (by unfold maxLen; omega) (by omega) (by simp; omega) (w6.heap.size + 1) (by simp) ?_; intro gg cap w7 hown7 hgrow hat hlt7; have B7 := ((B.drew.ext hx6).alloc _).grown hgrow (HN.out _ (by omega)); have f7 := B7.frozen; have k7 := B7.cell 3; have HG := Lib.hid hgrow; have HAT := Lib.hid hat; have HO := Lib.hid hown7; clear hgrow hat hown7)
          | (go_simp; go_at_call 18; refine (operand_any _ _ _).mono ?_; rw [HX.out]; rintro e w6 ⟨rfl, hxa⟩; have hx6 := hxa; have sz6 : wr.heap.size ≤ w6.heap.size := hx6.size; have k6 := hx6.cell (p := ⟨w5.heap.size, 3, none⟩) k5; have l6 : w5.heap.size < w6.heap.size := Nat.lt_of_lt_of_le hsz sz6; have kn6 := hx6.cell (p := ⟨w1.heap.size, 3, none⟩) kn))
        all_goals
          go_wp2
          go_roundw
          case rel =>
            have hx7 : Ext w4 w7 := ext_grown ((E.drew.trans hx6).alloc _) HG.out (by intro g hg; have := (World.ownsRow.lt HA) g hg; omega)
            have hgg : w5.heap.size + 1 ≤ gg := by
              rcases HAT.out with h | h
              · exact ((World.ownsRow.lt HA) gg h).1
              · omega
            refine ⟨2, .slice (some ⟨gg, 0, none⟩) (q + 1) cap, lk ++ [x], by omega, by first | rfl | go_num, ?_, ?_, ?_, ?_, ?_, ?_⟩
            · exact Lib.hid (by rw [HLK.out, HCX.out, HX.out]; simp)
            · rw [show (lk ++ [x]).length = q + 1 by rw [List.length_append, HLEN.out]; rfl]; omega
            · exact hx7.setCell (by simp; omega) _
            · simp; omega
            · exact B7.put 3 _
            · refine Args.setCell ?_ _ _ (by simp [Value.ownBlock]; omega)
              exact Args.snoc HO.out HLEN.out
          case measure => simp [intOf]
      have b20 : (s == 20) = false := by simpa using c20
      have HCX : Hid (code86 s N = [operandS (arg86 s) 0]) := Lib.hid (by rw [e_s, if_neg c0, if_neg c19, if_neg c20])
      clear e_s
      generalize hx : operandS (arg86 s) 0 = x
      have HX := Lib.hid hx; clear hx
      generalize hag : arg86 s = ag at *
      have HAG := Lib.hid hag; clear hag
      go_wp2
      have hN : ∀ g : Nat, g < w5.heap.size + 1 → some g ≠ (Value.slice Av q cv).ownBlock := fun g hg e => by have := (World.ownsRow.lt HA) g e.symm; omega
      have HN := Lib.hid hN; clear hN
      have hsz6 : w1.heap.size < wr.heap.size := by have := E.size; omega
      go_region_law (first
        | (refine step_append_lies _ (by rfl) _ _ _ (by rfl) (w5.heap.size + 1) 41 i0 _ 8 104 Tryz.underlying29 hi0 hz0 hz1 hz2 rfl (by omega) (.slice Av q cv) q _ (by rfl) ((Args.own (Args.ext (Args.drew HA) hx6) HLEN.out).alloc _) ⟨w6.heap.size, 0, none⟩ 1 1 [.string x.word, .string ⟨#[]⟩, .bool false, .bool x.mem, .string x.op, .int .u16 x.n, .string x.name, .slice none 0 0] (by rfl) (by rfl) (World.news_of_block (cs := #[.string x.word, .string ⟨#[]⟩, .bool false, .bool x.mem, .string x.op, .int .u16 x.n, .string x.name, .slice none 0 0]) (t := 41) (fr := (0, 0)) (heap_alloc_new w6 _)) (by simp [Value.oneCell']) (by omega) (by unfold maxLen; omega) (by omega) (by simp; omega) (w6.heap.size + 1) (by simp) ?_; intro gg cap w7 hown7 hgrow hat hlt7; have B7 := ((B.drew.ext hx6).alloc _).grown hgrow (HN.out _ (by omega)); have f7 := B7.frozen; have k7 := B7.cell 3; have HG := Lib.hid hgrow; have HAT := Lib.hid hat; have HO := Lib.hid hown7; clear hgrow hat hown7)
        | (go_simp; go_at_call 74; refine (arg86_any s (by omega) (by omega) _ (HT4.out.ext (E.trans (ext_drew wr)))).mono ?_; rw [HAG.out]; rintro e wa ⟨rfl, hxe⟩; have hya := hxe; have sza : wr.heap.size ≤ wa.heap.size := hya.size; have ka5 := hya.cell (p := ⟨w5.heap.size, 3, none⟩) k5; have la : w5.heap.size < wa.heap.size := Nat.lt_of_lt_of_le hsz sza)
        | (go_simp; go_at_call 18; refine (operand_any _ _ _).mono ?_; rw [HX.out]; rintro e w6 ⟨rfl, hxa⟩; have hx6 := hya.trans hxa; have sz6 : wr.heap.size ≤ w6.heap.size := hx6.size; have k6 := hx6.cell (p := ⟨w5.heap.size, 3, none⟩) k5; have l6 : w5.heap.size < w6.heap.size := Nat.lt_of_lt_of_le hsz sz6; have kn6 := hx6.cell (p := ⟨w1.heap.size, 3, none⟩) kn))
      all_goals
        go_wp2
        go_roundw
        case rel =>
          have hx7 : Ext w4 w7 := ext_grown ((E.drew.trans hx6).alloc _) HG.out (by intro g hg; have := (World.ownsRow.lt HA) g hg; omega)
          have hgg : w5.heap.size + 1 ≤ gg := by
            rcases HAT.out with h | h
            · exact ((World.ownsRow.lt HA) gg h).1
            · omega
          refine ⟨2, .slice (some ⟨gg, 0, none⟩) (q + 1) cap, lk ++ [x], by omega, by first | rfl | go_num, ?_, ?_, ?_, ?_, ?_, ?_⟩
          · exact Lib.hid (by rw [HLK.out, HCX.out, HX.out]; simp)
          · rw [show (lk ++ [x]).length = q + 1 by rw [List.length_append, HLEN.out]; rfl]; omega
          · exact hx7.setCell (by simp; omega) _
          · simp; omega
          · exact B7.put 3 _
          · refine Args.setCell ?_ _ _ (by simp [Value.ownBlock]; omega)
            exact Args.snoc HO.out HLEN.out
        case measure => simp [intOf]
    · rw [if_neg (by decide), if_neg (by decide)] at HLK
      have hB0' := hB0.ext E
      have k0 := hB0'.cell
      have f0 := hB0'.frozen
      have kk5 := B.cell
      clear k5
      go_wp2
      have hne : ∀ j : Nat, (Value.slice Av q cv).ownBlock ≠ some (⟨w.heap.size, j, none⟩ : Addr).block := by
        intro j e
        have h := (World.ownsRow.lt HA) _ e
        have h1 : w5.heap.size + 1 ≤ w.heap.size := h.1
        omega
      rw [HLK.out] at HA
      have hlk2 : (code86 d N ++ code86 s N).length = q := by rw [← HLK.out]; exact HLEN.out
      refine bodyPost_ret (res3 rfl _ _ _ w.heap.size (.agg #[.string ⟨#[]⟩, .bool false, .string name, .slice Av q cv]) rfl (by simp (maxDischargeDepth := 20) [go_sem, k0, kk5])) rfl (RPiece.mk hlk2 ?_ ?_ ?_)
      · exact ((((Args.mono HA (by omega)).setCell _ _ (hne _)).setCell _ _ (hne _)).setCell _ _ (hne _)).setCell _ _ (hne _)
      · exact ((((hxw4.trans E).setCell (by simp) _).setCell (by simp) _).setCell (by simp) _).setCell (by simp) _
      · simp [*]

theorem first86_j (p : Int) (hp0 : 0 ≤ p) (b : List Int) (hpl : p + b.length ≤ 65536) (v : Value) (w : World) (hT : Tab w) (hb : Byts w v b) (hp : 0 < b.length) (op d s n size : Int) (hr : read86S b = ⟨op, d, s, n, size, 0⟩)
    (ho : 0 ≤ op ∧ op ≤ 55) (hd : 0 ≤ d ∧ d ≤ 20) (hs : 0 ≤ s ∧ s ≤ 20) (hn : 0 ≤ n ∧ n ≤ 65535) (hz : 1 ≤ size ∧ size ≤ b.length) (hJ : jumps86 op = true) (N : Int) (hN : (n + (p + size)) % 65536 = N) (name : ByteArray) (hnm : name86 op = name) :
    Calls Tryz.prog 39 #[.int .i64 p, v] w (RPiece w name (code86 d N ++ code86 s N) size N) := by
  have HNM := Lib.hid hnm; have HR := Lib.hid hr; have HB := Lib.hid hb; have HT := Lib.hid hT; have HJ := Lib.hid hJ
  clear hnm hr hT hJ
  obtain ⟨i0, hi0, hz0, hz1, hz2⟩ := info_parts Tryz.info41
  obtain ⟨A, c, rfl, _⟩ := hb
  generalize b.length = L at *
  have hw1 : IntKind.u16.wrap (p + size) = (p + size) % 65536 := IntKind.wrap_u16 _
  have hw2 : IntKind.u16.wrap (n + (p + size) % 65536) = N := by rw [IntKind.wrap_u16]; omega
  have hN0 : 0 ≤ N ∧ N ≤ 65535 := by omega
  clear hN
  have hi106 := index106_0
  have hi107 := index106_1
  go_enter Tryz.func39, Tryz.ntmps39
  go_wp2_with (first
    | (go_at_call 70; refine (read86_any _ _ b (HB.out.ext (by with_reducible exact (Ext.refl _).alloc _))).mono ?_; rw [HR.out]; rintro e w1 ⟨rfl, hx1⟩; have hB1 := (Blk.new _ _ _).ext hx1)
    | (go_at_call 72; refine (jumps86_any op d s _ _).mono ?_; rw [HJ.out]; rintro e w2 ⟨rfl, hx2⟩; have hB2 := (Blk.new _ _ _).ext hx2; have hB1b := (hB1.alloc _).ext hx2; have k2 := hB2.cell; have f2 := hB2.frozen; have lt1 := hB1.lt; have hxw : Ext w w2 := ((((Ext.refl w).alloc _).trans hx1).alloc _).trans hx2)
    | (go_at_call 73; refine (name86_any op ho.1 ho.2 _ (HT.out.ext (hxw.setCell (by simp; omega) _))).mono ?_; rw [HNM.out]; rintro e w4 ⟨rfl, hx4⟩; have hB3 := (hB2.put 3 _).ext hx4; have hB0 := (hB1b.other (by simp; omega) _).ext hx4; have hxw4 := (hxw.setCell (by simp; omega) _).trans hx4)
    | (go_at_call 17; refine (stmt_any _ _ _ _ _).mono ?_; rintro e w5 ⟨rfl, hx5⟩; have k30 := ((hB3.ext hx5).alloc (.cells #[.string ⟨#[]⟩, .bool false, .string name, .slice none 0 0] 31)).cell))
  clear k30
  have HT4 := Lib.hid (HT.out.ext hxw4)
  have lt5 := hx5.size
  have lt4 := hB3.lt
  have lt0 := hB0.lt
  clear hB1 hB1b hB2 k2 f2 hx1 hx2 hx4
  have E0 : Ext w4 (w5.alloc (.cells #[.string ⟨#[]⟩, .bool false, .string name, .slice none 0 0] 31)) := hx5.alloc _
  have B5 := Blk.new w5 #[.string ⟨#[]⟩, .bool false, .string name, .slice none 0 0] 31
  have A5 := Args.nil (w5.alloc (.cells #[.string ⟨#[]⟩, .bool false, .string name, .slice none 0 0] 31)) (w5.heap.size + 1)
  go_loopw [51] (fun i wr => ∃ (k : Nat) (va : Value) (lk : List AR), k ≤ 2 ∧ i = .int .i64 k ∧ Hid (lk = if k = 0 then [] else if k = 1 then code86 d N else code86 d N ++ code86 s N) ∧ lk.length ≤ k ∧ Ext w4 wr ∧ w5.heap.size < wr.heap.size ∧ Blk wr w5.heap.size #[.string ⟨#[]⟩, .bool false, .string name, va] ∧ Args wr (w5.heap.size + 1) va lk) (fun i _ => 2 - (intOf i).toNat)
  case atStart => exact ⟨0, _, [], by omega, rfl, Lib.hid rfl, by simp, E0, by simp, B5, A5⟩
  case round =>
    obtain ⟨k, va, lk, hk, rfl, HLK, hlk, E, hsz, B, HA⟩ := hrel
    obtain ⟨Av, cv, rfl⟩ := HA.slice
    generalize hq : lk.length = q at *
    have HLEN := Lib.hid hq; clear hq
    have k5 := B.cell 3
    have kn := (hB3.ext E).cell 3
    have f5 := B.frozen
    clear B5 A5 E0
    rcases (by omega : k = 0 ∨ k = 1 ∨ k = 2) with rfl | rfl | rfl
    · rw [if_pos rfl] at HLK
      have e_d : ∀ N, code86 d N = if d = 0 then [] else if d = 19 then [operandS ⟨#[40, 110, 41]⟩ N] else if d = 20 then [operandS ⟨#[110]⟩ N] else [operandS (arg86 d) 0] := fun _ => rfl
      by_cases c0 : d = 0
      · have HCX : Hid (code86 d N = []) := Lib.hid (by rw [e_d, if_pos c0])
        have b0 : (d == 0) = true := by simpa using c0
        clear e_d c0
        go_wp2
        go_roundw
        case rel => exact ⟨1, .slice Av q cv, lk, by omega, by first | rfl | go_num, Lib.hid (by rw [HLK.out, HCX.out]; simp), by have := HLEN.out; omega, E, hsz, B, HA⟩
        case measure => simp [intOf]
      have b0 : (d == 0) = false := by simpa using c0
      by_cases c19 : d = 19
      · have HCX : Hid (code86 d N = [operandS ⟨#[40, 110, 41]⟩ N]) := Lib.hid (by rw [e_d, if_neg c0, if_pos c19])
        have b19 : (d == 19) = true := by simpa using c19
        clear c19
        clear e_d
        generalize hx : operandS ⟨#[40, 110, 41]⟩ N = x
        have HX := Lib.hid hx; clear hx
        go_wp2
        have hN : ∀ g : Nat, g < w5.heap.size + 1 → some g ≠ (Value.slice Av q cv).ownBlock := fun g hg e => by have := (World.ownsRow.lt HA) g e.symm; omega
        have HN := Lib.hid hN; clear hN
        have hsz6 : w1.heap.size < wr.heap.size := by have := E.size; omega
        go_region_law (first
          | (refine step_append_lies _ (by rfl) _ _ _ (by rfl) (w5.heap.size + 1) 41 i0 _ 8 104 Tryz.underlying29 hi0 hz0 hz1 hz2 rfl (by omega) (.slice Av q cv) q _ (by rfl) ((Args.own (Args.ext (Args.drew HA) hx6) HLEN.out).alloc _) ⟨w6.heap.size, 0, none⟩ 1 1 [.string x.word, .string ⟨#[]⟩, .bool false, .bool x.mem, .string x.op, .int .u16 x.n, .string x.name, .slice none 0 0] (by rfl) (by rfl) (World.news_of_block (cs := #[.string x.word, .string ⟨#[]⟩, .bool false, .bool x.mem, .string x.op, .int .u16 x.n, .string x.name, .slice none 0 0]) (t := 41) (fr := (0, 0)) (heap_alloc_new w6 _)) (by simp [Value.oneCell']) (by omega) (by unfold maxLen; omega) (by omega) (by simp; omega) (w6.heap.size + 1) (by simp) ?_; intro gg cap w7 hown7 hgrow hat hlt7; have B7 := ((B.drew.ext hx6).alloc _).grown hgrow (HN.out _ (by omega)); have f7 := B7.frozen; have k7 := B7.cell 3; have HG := Lib.hid hgrow; have HAT := Lib.hid hat; have HO := Lib.hid hown7; clear hgrow hat hown7)
          | (go_simp; go_at_call 18; refine (operand_any _ _ _).mono ?_; rw [HX.out]; rintro e w6 ⟨rfl, hxa⟩; have hx6 := hxa; have sz6 : wr.heap.size ≤ w6.heap.size := hx6.size; have k6 := hx6.cell (p := ⟨w5.heap.size, 3, none⟩) k5; have l6 : w5.heap.size < w6.heap.size := Nat.lt_of_lt_of_le hsz sz6; have kn6 := hx6.cell (p := ⟨w1.heap.size, 3, none⟩) kn))
        all_goals
          go_wp2
          go_roundw
          case rel =>
            have hx7 : Ext w4 w7 := ext_grown ((E.drew.trans hx6).alloc _) HG.out (by intro g hg; have := (World.ownsRow.lt HA) g hg; omega)
            have hgg : w5.heap.size + 1 ≤ gg := by
              rcases HAT.out with h | h
              · exact ((World.ownsRow.lt HA) gg h).1
              · omega
            refine ⟨1, .slice (some ⟨gg, 0, none⟩) (q + 1) cap, lk ++ [x], by omega, by first | rfl | go_num, ?_, ?_, ?_, ?_, ?_, ?_⟩
            · exact Lib.hid (by rw [HLK.out, HCX.out, HX.out]; simp)
            · rw [show (lk ++ [x]).length = q + 1 by rw [List.length_append, HLEN.out]; rfl]; omega
            · exact hx7.setCell (by simp; omega) _
            · simp; omega
            · exact B7.put 3 _
            · refine Args.setCell ?_ _ _ (by simp [Value.ownBlock]; omega)
              exact Args.snoc HO.out HLEN.out
          case measure => simp [intOf]
      have b19 : (d == 19) = false := by simpa using c19
      by_cases c20 : d = 20
      · have HCX : Hid (code86 d N = [operandS ⟨#[110]⟩ N]) := Lib.hid (by rw [e_d, if_neg c0, if_neg c19, if_pos c20])
        have b20 : (d == 20) = true := by simpa using c20
        clear e_d c20
        generalize hx : operandS ⟨#[110]⟩ N = x
        have HX := Lib.hid hx; clear hx
        go_wp2
        have hN : ∀ g : Nat, g < w5.heap.size + 1 → some g ≠ (Value.slice Av q cv).ownBlock := fun g hg e => by have := (World.ownsRow.lt HA) g e.symm; omega
        have HN := Lib.hid hN; clear hN
        have hsz6 : w1.heap.size < wr.heap.size := by have := E.size; omega
        go_region_law (first
          | (refine step_append_lies _ (by rfl) _ _ _ (by rfl) (w5.heap.size + 1) 41 i0 _ 8 104 Tryz.underlying29 hi0 hz0 hz1 hz2 rfl (by omega) (.slice Av q cv) q _ (by rfl) ((Args.own (Args.ext (Args.drew HA) hx6) HLEN.out).alloc _) ⟨w6.heap.size, 0, none⟩ 1 1 [.string x.word, .string ⟨#[]⟩, .bool false, .bool x.mem, .string x.op, .int .u16 x.n, .string x.name, .slice none 0 0] (by rfl) (by rfl) (World.news_of_block (cs := #[.string x.word, .string ⟨#[]⟩, .bool false, .bool x.mem, .string x.op, .int .u16 x.n, .string x.name, .slice none 0 0]) (t := 41) (fr := (0, 0)) (heap_alloc_new w6 _)) (by simp [Value.oneCell']) (by omega) (by unfold maxLen; omega) (by omega) (by simp; omega) (w6.heap.size + 1) (by simp) ?_; intro gg cap w7 hown7 hgrow hat hlt7; have B7 := ((B.drew.ext hx6).alloc _).grown hgrow (HN.out _ (by omega)); have f7 := B7.frozen; have k7 := B7.cell 3; have HG := Lib.hid hgrow; have HAT := Lib.hid hat; have HO := Lib.hid hown7; clear hgrow hat hown7)
          | (go_simp; go_at_call 18; refine (operand_any _ _ _).mono ?_; rw [HX.out]; rintro e w6 ⟨rfl, hxa⟩; have hx6 := hxa; have sz6 : wr.heap.size ≤ w6.heap.size := hx6.size; have k6 := hx6.cell (p := ⟨w5.heap.size, 3, none⟩) k5; have l6 : w5.heap.size < w6.heap.size := Nat.lt_of_lt_of_le hsz sz6; have kn6 := hx6.cell (p := ⟨w1.heap.size, 3, none⟩) kn))
        all_goals
          go_wp2
          go_roundw
          case rel =>
            have hx7 : Ext w4 w7 := ext_grown ((E.drew.trans hx6).alloc _) HG.out (by intro g hg; have := (World.ownsRow.lt HA) g hg; omega)
            have hgg : w5.heap.size + 1 ≤ gg := by
              rcases HAT.out with h | h
              · exact ((World.ownsRow.lt HA) gg h).1
              · omega
            refine ⟨1, .slice (some ⟨gg, 0, none⟩) (q + 1) cap, lk ++ [x], by omega, by first | rfl | go_num, ?_, ?_, ?_, ?_, ?_, ?_⟩
            · exact Lib.hid (by rw [HLK.out, HCX.out, HX.out]; simp)
            · rw [show (lk ++ [x]).length = q + 1 by rw [List.length_append, HLEN.out]; rfl]; omega
            · exact hx7.setCell (by simp; omega) _
            · simp; omega
            · exact B7.put 3 _
            · refine Args.setCell ?_ _ _ (by simp [Value.ownBlock]; omega)
              exact Args.snoc HO.out HLEN.out
          case measure => simp [intOf]
      have b20 : (d == 20) = false := by simpa using c20
      have HCX : Hid (code86 d N = [operandS (arg86 d) 0]) := Lib.hid (by rw [e_d, if_neg c0, if_neg c19, if_neg c20])
      clear e_d
      generalize hx : operandS (arg86 d) 0 = x
      have HX := Lib.hid hx; clear hx
      generalize hag : arg86 d = ag at *
      have HAG := Lib.hid hag; clear hag
      go_wp2
      have hN : ∀ g : Nat, g < w5.heap.size + 1 → some g ≠ (Value.slice Av q cv).ownBlock := fun g hg e => by have := (World.ownsRow.lt HA) g e.symm; omega
      have HN := Lib.hid hN; clear hN
      have hsz6 : w1.heap.size < wr.heap.size := by have := E.size; omega
      go_region_law (first
        | (refine step_append_lies _ (by rfl) _ _ _ (by rfl) (w5.heap.size + 1) 41 i0 _ 8 104 Tryz.underlying29 hi0 hz0 hz1 hz2 rfl (by omega) (.slice Av q cv) q _ (by rfl) ((Args.own (Args.ext (Args.drew HA) hx6) HLEN.out).alloc _) ⟨w6.heap.size, 0, none⟩ 1 1 [.string x.word, .string ⟨#[]⟩, .bool false, .bool x.mem, .string x.op, .int .u16 x.n, .string x.name, .slice none 0 0] (by rfl) (by rfl) (World.news_of_block (cs := #[.string x.word, .string ⟨#[]⟩, .bool false, .bool x.mem, .string x.op, .int .u16 x.n, .string x.name, .slice none 0 0]) (t := 41) (fr := (0, 0)) (heap_alloc_new w6 _)) (by simp [Value.oneCell']) (by omega) (by unfold maxLen; omega) (by omega) (by simp; omega) (w6.heap.size + 1) (by simp) ?_; intro gg cap w7 hown7 hgrow hat hlt7; have B7 := ((B.drew.ext hx6).alloc _).grown hgrow (HN.out _ (by omega)); have f7 := B7.frozen; have k7 := B7.cell 3; have HG := Lib.hid hgrow; have HAT := Lib.hid hat; have HO := Lib.hid hown7; clear hgrow hat hown7)
        | (go_simp; go_at_call 74; refine (arg86_any d (by omega) (by omega) _ (HT4.out.ext (E.trans (ext_drew wr)))).mono ?_; rw [HAG.out]; rintro e wa ⟨rfl, hxe⟩; have hya := hxe; have sza : wr.heap.size ≤ wa.heap.size := hya.size; have ka5 := hya.cell (p := ⟨w5.heap.size, 3, none⟩) k5; have la : w5.heap.size < wa.heap.size := Nat.lt_of_lt_of_le hsz sza)
        | (go_simp; go_at_call 18; refine (operand_any _ _ _).mono ?_; rw [HX.out]; rintro e w6 ⟨rfl, hxa⟩; have hx6 := hya.trans hxa; have sz6 : wr.heap.size ≤ w6.heap.size := hx6.size; have k6 := hx6.cell (p := ⟨w5.heap.size, 3, none⟩) k5; have l6 : w5.heap.size < w6.heap.size := Nat.lt_of_lt_of_le hsz sz6; have kn6 := hx6.cell (p := ⟨w1.heap.size, 3, none⟩) kn))
      all_goals
        go_wp2
        go_roundw
        case rel =>
          have hx7 : Ext w4 w7 := ext_grown ((E.drew.trans hx6).alloc _) HG.out (by intro g hg; have := (World.ownsRow.lt HA) g hg; omega)
          have hgg : w5.heap.size + 1 ≤ gg := by
            rcases HAT.out with h | h
            · exact ((World.ownsRow.lt HA) gg h).1
            · omega
          refine ⟨1, .slice (some ⟨gg, 0, none⟩) (q + 1) cap, lk ++ [x], by omega, by first | rfl | go_num, ?_, ?_, ?_, ?_, ?_, ?_⟩
          · exact Lib.hid (by rw [HLK.out, HCX.out, HX.out]; simp)
          · rw [show (lk ++ [x]).length = q + 1 by rw [List.length_append, HLEN.out]; rfl]; omega
          · exact hx7.setCell (by simp; omega) _
          · simp; omega
          · exact B7.put 3 _
          · refine Args.setCell ?_ _ _ (by simp [Value.ownBlock]; omega)
            exact Args.snoc HO.out HLEN.out
        case measure => simp [intOf]
    · rw [if_neg (by decide), if_pos rfl] at HLK
      have e_s : ∀ N, code86 s N = if s = 0 then [] else if s = 19 then [operandS ⟨#[40, 110, 41]⟩ N] else if s = 20 then [operandS ⟨#[110]⟩ N] else [operandS (arg86 s) 0] := fun _ => rfl
      by_cases c0 : s = 0
      · have HCX : Hid (code86 s N = []) := Lib.hid (by rw [e_s, if_pos c0])
        have b0 : (s == 0) = true := by simpa using c0
        clear e_s c0
        go_wp2
        go_roundw
        case rel => exact ⟨2, .slice Av q cv, lk, by omega, by first | rfl | go_num, Lib.hid (by rw [HLK.out, HCX.out]; simp), by have := HLEN.out; omega, E, hsz, B, HA⟩
        case measure => simp [intOf]
      have b0 : (s == 0) = false := by simpa using c0
      by_cases c19 : s = 19
      · have HCX : Hid (code86 s N = [operandS ⟨#[40, 110, 41]⟩ N]) := Lib.hid (by rw [e_s, if_neg c0, if_pos c19])
        have b19 : (s == 19) = true := by simpa using c19
        clear c19
        clear e_s
        generalize hx : operandS ⟨#[40, 110, 41]⟩ N = x
        have HX := Lib.hid hx; clear hx
        go_wp2
        have hN : ∀ g : Nat, g < w5.heap.size + 1 → some g ≠ (Value.slice Av q cv).ownBlock := fun g hg e => by have := (World.ownsRow.lt HA) g e.symm; omega
        have HN := Lib.hid hN; clear hN
        have hsz6 : w1.heap.size < wr.heap.size := by have := E.size; omega
        go_region_law (first
          | (refine step_append_lies _ (by rfl) _ _ _ (by rfl) (w5.heap.size + 1) 41 i0 _ 8 104 Tryz.underlying29 hi0 hz0 hz1 hz2 rfl (by omega) (.slice Av q cv) q _ (by rfl) ((Args.own (Args.ext (Args.drew HA) hx6) HLEN.out).alloc _) ⟨w6.heap.size, 0, none⟩ 1 1 [.string x.word, .string ⟨#[]⟩, .bool false, .bool x.mem, .string x.op, .int .u16 x.n, .string x.name, .slice none 0 0] (by rfl) (by rfl) (World.news_of_block (cs := #[.string x.word, .string ⟨#[]⟩, .bool false, .bool x.mem, .string x.op, .int .u16 x.n, .string x.name, .slice none 0 0]) (t := 41) (fr := (0, 0)) (heap_alloc_new w6 _)) (by simp [Value.oneCell']) (by omega) (by unfold maxLen; omega) (by omega) (by simp; omega) (w6.heap.size + 1) (by simp) ?_; intro gg cap w7 hown7 hgrow hat hlt7; have B7 := ((B.drew.ext hx6).alloc _).grown hgrow (HN.out _ (by omega)); have f7 := B7.frozen; have k7 := B7.cell 3; have HG := Lib.hid hgrow; have HAT := Lib.hid hat; have HO := Lib.hid hown7; clear hgrow hat hown7)
          | (go_simp; go_at_call 18; refine (operand_any _ _ _).mono ?_; rw [HX.out]; rintro e w6 ⟨rfl, hxa⟩; have hx6 := hxa; have sz6 : wr.heap.size ≤ w6.heap.size := hx6.size; have k6 := hx6.cell (p := ⟨w5.heap.size, 3, none⟩) k5; have l6 : w5.heap.size < w6.heap.size := Nat.lt_of_lt_of_le hsz sz6; have kn6 := hx6.cell (p := ⟨w1.heap.size, 3, none⟩) kn))
        all_goals
          go_wp2
          go_roundw
          case rel =>
            have hx7 : Ext w4 w7 := ext_grown ((E.drew.trans hx6).alloc _) HG.out (by intro g hg; have := (World.ownsRow.lt HA) g hg; omega)
            have hgg : w5.heap.size + 1 ≤ gg := by
              rcases HAT.out with h | h
              · exact ((World.ownsRow.lt HA) gg h).1
              · omega
            refine ⟨2, .slice (some ⟨gg, 0, none⟩) (q + 1) cap, lk ++ [x], by omega, by first | rfl | go_num, ?_, ?_, ?_, ?_, ?_, ?_⟩
            · exact Lib.hid (by rw [HLK.out, HCX.out, HX.out]; simp)
            · rw [show (lk ++ [x]).length = q + 1 by rw [List.length_append, HLEN.out]; rfl]; omega
            · exact hx7.setCell (by simp; omega) _
            · simp; omega
            · exact B7.put 3 _
            · refine Args.setCell ?_ _ _ (by simp [Value.ownBlock]; omega)
              exact Args.snoc HO.out HLEN.out
          case measure => simp [intOf]
      have b19 : (s == 19) = false := by simpa using c19
      by_cases c20 : s = 20
      · have HCX : Hid (code86 s N = [operandS ⟨#[110]⟩ N]) := Lib.hid (by rw [e_s, if_neg c0, if_neg c19, if_pos c20])
        have b20 : (s == 20) = true := by simpa using c20
        clear e_s c20
        generalize hx : operandS ⟨#[110]⟩ N = x
        have HX := Lib.hid hx; clear hx
        go_wp2
        have hN : ∀ g : Nat, g < w5.heap.size + 1 → some g ≠ (Value.slice Av q cv).ownBlock := fun g hg e => by have := (World.ownsRow.lt HA) g e.symm; omega
        have HN := Lib.hid hN; clear hN
        have hsz6 : w1.heap.size < wr.heap.size := by have := E.size; omega
        go_region_law (first
          | (refine step_append_lies _ (by rfl) _ _ _ (by rfl) (w5.heap.size + 1) 41 i0 _ 8 104 Tryz.underlying29 hi0 hz0 hz1 hz2 rfl (by omega) (.slice Av q cv) q _ (by rfl) ((Args.own (Args.ext (Args.drew HA) hx6) HLEN.out).alloc _) ⟨w6.heap.size, 0, none⟩ 1 1 [.string x.word, .string ⟨#[]⟩, .bool false, .bool x.mem, .string x.op, .int .u16 x.n, .string x.name, .slice none 0 0] (by rfl) (by rfl) (World.news_of_block (cs := #[.string x.word, .string ⟨#[]⟩, .bool false, .bool x.mem, .string x.op, .int .u16 x.n, .string x.name, .slice none 0 0]) (t := 41) (fr := (0, 0)) (heap_alloc_new w6 _)) (by simp [Value.oneCell']) (by omega) (by unfold maxLen; omega) (by omega) (by simp; omega) (w6.heap.size + 1) (by simp) ?_; intro gg cap w7 hown7 hgrow hat hlt7; have B7 := ((B.drew.ext hx6).alloc _).grown hgrow (HN.out _ (by omega)); have f7 := B7.frozen; have k7 := B7.cell 3; have HG := Lib.hid hgrow; have HAT := Lib.hid hat; have HO := Lib.hid hown7; clear hgrow hat hown7)
          | (go_simp; go_at_call 18; refine (operand_any _ _ _).mono ?_; rw [HX.out]; rintro e w6 ⟨rfl, hxa⟩; have hx6 := hxa; have sz6 : wr.heap.size ≤ w6.heap.size := hx6.size; have k6 := hx6.cell (p := ⟨w5.heap.size, 3, none⟩) k5; have l6 : w5.heap.size < w6.heap.size := Nat.lt_of_lt_of_le hsz sz6; have kn6 := hx6.cell (p := ⟨w1.heap.size, 3, none⟩) kn))
        all_goals
          go_wp2
          go_roundw
          case rel =>
            have hx7 : Ext w4 w7 := ext_grown ((E.drew.trans hx6).alloc _) HG.out (by intro g hg; have := (World.ownsRow.lt HA) g hg; omega)
            have hgg : w5.heap.size + 1 ≤ gg := by
              rcases HAT.out with h | h
              · exact ((World.ownsRow.lt HA) gg h).1
              · omega
            refine ⟨2, .slice (some ⟨gg, 0, none⟩) (q + 1) cap, lk ++ [x], by omega, by first | rfl | go_num, ?_, ?_, ?_, ?_, ?_, ?_⟩
            · exact Lib.hid (by rw [HLK.out, HCX.out, HX.out]; simp)
            · rw [show (lk ++ [x]).length = q + 1 by rw [List.length_append, HLEN.out]; rfl]; omega
            · exact hx7.setCell (by simp; omega) _
            · simp; omega
            · exact B7.put 3 _
            · refine Args.setCell ?_ _ _ (by simp [Value.ownBlock]; omega)
              exact Args.snoc HO.out HLEN.out
          case measure => simp [intOf]
      have b20 : (s == 20) = false := by simpa using c20
      have HCX : Hid (code86 s N = [operandS (arg86 s) 0]) := Lib.hid (by rw [e_s, if_neg c0, if_neg c19, if_neg c20])
      clear e_s
      generalize hx : operandS (arg86 s) 0 = x
      have HX := Lib.hid hx; clear hx
      generalize hag : arg86 s = ag at *
      have HAG := Lib.hid hag; clear hag
      go_wp2
      have hN : ∀ g : Nat, g < w5.heap.size + 1 → some g ≠ (Value.slice Av q cv).ownBlock := fun g hg e => by have := (World.ownsRow.lt HA) g e.symm; omega
      have HN := Lib.hid hN; clear hN
      have hsz6 : w1.heap.size < wr.heap.size := by have := E.size; omega
      go_region_law (first
        | (refine step_append_lies _ (by rfl) _ _ _ (by rfl) (w5.heap.size + 1) 41 i0 _ 8 104 Tryz.underlying29 hi0 hz0 hz1 hz2 rfl (by omega) (.slice Av q cv) q _ (by rfl) ((Args.own (Args.ext (Args.drew HA) hx6) HLEN.out).alloc _) ⟨w6.heap.size, 0, none⟩ 1 1 [.string x.word, .string ⟨#[]⟩, .bool false, .bool x.mem, .string x.op, .int .u16 x.n, .string x.name, .slice none 0 0] (by rfl) (by rfl) (World.news_of_block (cs := #[.string x.word, .string ⟨#[]⟩, .bool false, .bool x.mem, .string x.op, .int .u16 x.n, .string x.name, .slice none 0 0]) (t := 41) (fr := (0, 0)) (heap_alloc_new w6 _)) (by simp [Value.oneCell']) (by omega) (by unfold maxLen; omega) (by omega) (by simp; omega) (w6.heap.size + 1) (by simp) ?_; intro gg cap w7 hown7 hgrow hat hlt7; have B7 := ((B.drew.ext hx6).alloc _).grown hgrow (HN.out _ (by omega)); have f7 := B7.frozen; have k7 := B7.cell 3; have HG := Lib.hid hgrow; have HAT := Lib.hid hat; have HO := Lib.hid hown7; clear hgrow hat hown7)
        | (go_simp; go_at_call 74; refine (arg86_any s (by omega) (by omega) _ (HT4.out.ext (E.trans (ext_drew wr)))).mono ?_; rw [HAG.out]; rintro e wa ⟨rfl, hxe⟩; have hya := hxe; have sza : wr.heap.size ≤ wa.heap.size := hya.size; have ka5 := hya.cell (p := ⟨w5.heap.size, 3, none⟩) k5; have la : w5.heap.size < wa.heap.size := Nat.lt_of_lt_of_le hsz sza)
        | (go_simp; go_at_call 18; refine (operand_any _ _ _).mono ?_; rw [HX.out]; rintro e w6 ⟨rfl, hxa⟩; have hx6 := hya.trans hxa; have sz6 : wr.heap.size ≤ w6.heap.size := hx6.size; have k6 := hx6.cell (p := ⟨w5.heap.size, 3, none⟩) k5; have l6 : w5.heap.size < w6.heap.size := Nat.lt_of_lt_of_le hsz sz6; have kn6 := hx6.cell (p := ⟨w1.heap.size, 3, none⟩) kn))
      all_goals
        go_wp2
        go_roundw
        case rel =>
          have hx7 : Ext w4 w7 := ext_grown ((E.drew.trans hx6).alloc _) HG.out (by intro g hg; have := (World.ownsRow.lt HA) g hg; omega)
          have hgg : w5.heap.size + 1 ≤ gg := by
            rcases HAT.out with h | h
            · exact ((World.ownsRow.lt HA) gg h).1
            · omega
          refine ⟨2, .slice (some ⟨gg, 0, none⟩) (q + 1) cap, lk ++ [x], by omega, by first | rfl | go_num, ?_, ?_, ?_, ?_, ?_, ?_⟩
          · exact Lib.hid (by rw [HLK.out, HCX.out, HX.out]; simp)
          · rw [show (lk ++ [x]).length = q + 1 by rw [List.length_append, HLEN.out]; rfl]; omega
          · exact hx7.setCell (by simp; omega) _
          · simp; omega
          · exact B7.put 3 _
          · refine Args.setCell ?_ _ _ (by simp [Value.ownBlock]; omega)
            exact Args.snoc HO.out HLEN.out
        case measure => simp [intOf]
    · rw [if_neg (by decide), if_neg (by decide)] at HLK
      have hB0' := hB0.ext E
      have k0 := hB0'.cell
      have f0 := hB0'.frozen
      have kk5 := B.cell
      clear k5
      go_wp2
      have hne : ∀ j : Nat, (Value.slice Av q cv).ownBlock ≠ some (⟨w.heap.size, j, none⟩ : Addr).block := by
        intro j e
        have h := (World.ownsRow.lt HA) _ e
        have h1 : w5.heap.size + 1 ≤ w.heap.size := h.1
        omega
      rw [HLK.out] at HA
      have hlk2 : (code86 d N ++ code86 s N).length = q := by rw [← HLK.out]; exact HLEN.out
      refine bodyPost_ret (res3 rfl _ _ _ w.heap.size (.agg #[.string ⟨#[]⟩, .bool false, .string name, .slice Av q cv]) rfl (by simp (maxDischargeDepth := 20) [go_sem, k0, kk5])) rfl (RPiece.mk hlk2 ?_ ?_ ?_)
      · exact ((((Args.mono HA (by omega)).setCell _ _ (hne _)).setCell _ _ (hne _)).setCell _ _ (hne _)).setCell _ _ (hne _)
      · exact ((((hxw4.trans E).setCell (by simp) _).setCell (by simp) _).setCell (by simp) _).setCell (by simp) _
      · simp [*]

theorem first86_e (p : Int) (b : List Int) (v : Value) (w : World) (hb : Byts w v b) (hp : 0 < b.length) (hr : (read86S b).kind ≠ 0) :
    Calls Tryz.prog 39 #[.int .i64 p, v] w (RPiece w ⟨#[68, 66]⟩ [numA false (b.getD 0 0)] 1 (-1)) := by
  have HB := Lib.hid hb
  obtain ⟨A, c, rfl, hc1, hc2, hrg, hcs⟩ := hb
  obtain ⟨g, o, rfl, hlt, hc⟩ := hcs hp
  have r0 := getD_range hrg 0
  have hc0 := hc 0 hp
  simp only [Nat.add_zero] at hc0
  generalize hx0 : b.getD 0 0 = x0 at *
  generalize hR : read86S b = R at *
  have HX0 := Lib.hid hx0; have HR := Lib.hid hR
  clear hx0 hR hc hrg hcs
  obtain ⟨o1, d1, s1, n1, z1, k1⟩ := R
  simp only at hr
  go_enter Tryz.func39, Tryz.ntmps39
  go_wp2_with (first
    | (go_at_call 70; refine (read86_any _ _ b (HB.out.ext (by with_reducible exact (Ext.refl _).alloc _))).mono ?_; rw [HR.out]; rintro e w1 ⟨rfl, hx1⟩; have hB1 := (Blk.new _ _ _).ext hx1; have kb := (((Ext.refl _).alloc _).trans hx1).cell hc0; have ltg : g < w1.heap.size := Nat.lt_of_lt_of_le hlt (((Ext.refl _).alloc _).trans hx1).size)
    | (go_at_call 71; refine (db_any _ r0.1 r0.2 _).mono ?_; rintro e w2 ⟨A2, c2, rfl, hA2, hx2⟩; have hB2 := (hB1.alloc _).ext hx2; have k := hB2.cell; have f := hB2.frozen; have lt1 := hB1.lt))
  have hne : ∀ j : Nat, (Value.slice A2 1 c2).ownBlock ≠ some (⟨w.heap.size, j, none⟩ : Addr).block := by
    intro j e
    have h := (World.ownsRow.lt hA2) _ e
    have h1 := h.1
    simp at h1
    omega
  refine bodyPost_ret (res3 rfl _ _ _ w.heap.size (.agg #[.string ⟨#[]⟩, .bool false, .string ⟨#[68, 66]⟩, .slice A2 1 c2]) rfl (by simp (maxDischargeDepth := 20) [go_sem, k])) rfl (RPiece.mk rfl ?_ ?_ rfl)
  · exact ((((Args.mono hA2 (by have := lt1; simp at this ⊢; omega)).setCell _ _ (hne _)).setCell _ _ (hne _)).setCell _ _ (hne _)).setCell _ _ (hne _)
  · have hxw : Ext w w2 := ((((Ext.refl w).alloc _).trans hx1).alloc _).trans hx2
    exact (((hxw.setCell (by simp) _).setCell (by simp) _).setCell (by simp) _).setCell (by simp) _

theorem first86_any (p : Int) (hp0 : 0 ≤ p) (b : List Int) (hpl : p + b.length ≤ 65536) (v : Value) (w : World) (hT : Tab w) (hb : Byts w v b) (hp : 0 < b.length) :
    Calls Tryz.prog 39 #[.int .i64 p, v] w (RPiece w (F86 p b).op (F86 p b).args (F86 p b).size (F86 p b).tgt) := by
  have hrg : ∀ x ∈ b, 0 ≤ x ∧ x ≤ 255 := by obtain ⟨_, _, _, _, _, h, _⟩ := hb; exact h
  by_cases hk : (read86S b).kind = 0
  · obtain ⟨l, t, h⟩ := read86_took hrg hk
    have hm := h.more hrg
    have hF : F86 p b = ⟨name86 (read86S b).op, code86 (read86S b).d (num86 p (read86S b)) ++ code86 (read86S b).s (num86 p (read86S b)), (read86S b).size, if jumps86 (read86S b).op = true then num86 p (read86S b) else -1⟩ := if_neg (by simpa using hk)
    rw [hF]
    have hR : read86S b = ⟨(read86S b).op, (read86S b).d, (read86S b).s, (read86S b).n, (read86S b).size, 0⟩ := by
      generalize read86S b = r at *
      obtain ⟨a1, a2, a3, a4, a5, a6⟩ := r
      simp only at hk
      rw [hk]
    rcases Bool.eq_false_or_eq_true (jumps86 (read86S b).op) with hj | hj
    · have hN : num86 p (read86S b) = ((read86S b).n + (p + (read86S b).size)) % 65536 := if_pos hj
      simp only [hj, if_true]
      exact first86_j p hp0 b hpl v w hT hb hp _ _ _ _ _ hR h.form.o h.form.d h.form.s hm.2.2 ⟨hm.1, hm.2.1⟩ hj _ hN.symm _ rfl
    · have hN : num86 p (read86S b) = (read86S b).n := if_neg (by rw [hj]; simp)
      simp only [hj]
      exact first86_n p hp0 b hpl v w hT hb hp _ _ _ _ _ hR h.form.o h.form.d h.form.s hm.2.2 ⟨hm.1, hm.2.1⟩ hj _ hN.symm _ rfl
  · have hF : F86 p b = ⟨⟨#[68, 66]⟩, [numA false (b.getD 0 0)], 1, -1⟩ := if_pos hk
    rw [hF]
    exact first86_e p b v w hb hp hk
end Go.Proofs.YtnklmehphmidhaaGreatDoor
