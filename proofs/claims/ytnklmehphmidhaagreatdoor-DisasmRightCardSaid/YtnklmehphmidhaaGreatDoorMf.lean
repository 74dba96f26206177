/- disasm: the first instruction of the 8080's. -/
import Derived.Test.YtnklmehphmidhaaGreatDoorMe
namespace Go.Proofs.YtnklmehphmidhaaGreatDoor
section
open Go.RowKit
set_option maxRecDepth 100000
set_option maxHeartbeats 4000000
set_option linter.unusedSimpArgs false
set_option linter.unusedVariables false

theorem ext_drew (w : World) : Ext w w.drew := (Ext.refl w).drew

theorem first80_1 (b : List Int) (v : Value) (w : World) (hb : Byts w v b) (hp : 0 < b.length) (o n size : Int) (hT : Tab w) (hr : readS b = (o, n, size, 0)) (ho : 0 ≤ o ∧ o ≤ 255) (hn : 0 ≤ n ∧ n ≤ 65535) (hrst : (bits .and .u8 o 199 == 199) = false)
    (name : ByteArray) (hnm : nameOf (formS o) = name) (args : List ByteArray) (harg : (formS o).tail = args) (l : List AR) (hl : args.map (operandS · n) = l) (hlen4 : l.length = args.length) :
    Calls Tryz.prog 40 #[.int .i64 1, v] w (RPiece w name l size (if jumpsB o = true then n else -1)) := by
  have HNM := Lib.hid hnm; have HARG := Lib.hid harg; have HLL := Lib.hid hl; have HL44 := Lib.hid hlen4
  clear hnm harg hl hlen4
  have HR := Lib.hid hr
  clear hr
  have HT := Lib.hid hT; clear hT
  have HB := Lib.hid hb
  obtain ⟨i0, hi0, hz0, hz1, hz2⟩ := info_parts Tryz.info41
  obtain ⟨A, c, rfl, _⟩ := hb
  have hb7 := band7 (o / 8) (by omega) (by omega)
  go_enter Tryz.func40, Tryz.ntmps40
  go_wp2_with (first
    | (go_at_call 75; refine (read_any b _ _ (HB.out.ext (by with_reducible exact (Ext.refl _).alloc _))).mono ?_; rw [HR.out]; rintro e w1 ⟨rfl, hx1⟩; have hB1 := (Blk.new _ _ _).ext hx1)
    | (go_at_call 76; refine (jumps_any _ ho.1 (by omega) _).mono ?_; rintro e w2 ⟨rfl, hx2⟩; have hB2 := (Blk.new _ _ _).ext hx2; have hB1b := (hB1.alloc _).ext hx2; have k2 := hB2.cell; have lt1 := hB1.lt; have TW : Ext w w2.drew := ((((Ext.refl w).alloc _).trans hx1).alloc _ |>.trans hx2).drew))
  all_goals
    go_region_held3 (fun W => W.cell? ⟨w1.heap.size, 0, none⟩ = some (.int .u8 o)) (first | go_keep | (exact (hxa.cell ‹_›)))
      (first
       | (go_at_call 77; refine (name_any _ ho.1 (by omega) _).mono ?_; rintro e wb3 ⟨rfl, hxa⟩; have hxb3 := hxa)
       | (go_at_call 78; refine (args_any _ ho.1 (by omega) _).mono ?_; rintro e wb4 ⟨vb4, rfl, hsb4, hxa⟩; have hxb4 := hxa))
  all_goals
    go_wp2_with fail
    go_region_held3 (fun W => W.cell? ⟨w1.heap.size, 0, none⟩ = some (.int .u8 o)) (first | go_keep | (exact (hxa.cell ‹_›)))
      (first
       | (go_at_call 79; refine (zname_any _ ho.1 (by omega) _ (HT.out.ext ((TW.trans hxb3).trans (hxb4.trans (ext_drew _))))).mono ?_; rw [HNM.out]; rintro e w3 ⟨rfl, hxa⟩; have hx3 := hxa)
       | (go_at_call 80; refine (zargs_any _ ho.1 (by omega) _ (HT.out.ext (((TW.trans hxb3).trans (hxb4.trans (ext_drew _))).trans hx3))).mono ?_; rw [HARG.out]; rintro e w4 ⟨v4, rfl, hs4, hxa⟩; have hx4 := hxa))
  all_goals
    have hB3 := ((((hB2.drew.ext hxb3).ext hxb4).drew).ext hx3).ext hx4
    have hB0 := ((((hB1b.drew.ext hxb3).ext hxb4).drew).ext hx3).ext hx4
    have hxw : Ext w w4 := ((TW.trans hxb3).trans (hxb4.trans (ext_drew _))).trans (hx3.trans hx4)
    have k3 := hB3.cell
    clear hB1 hB1b hB2 k2 hx1 hx2 hx3 hx4 hxa hxb3 hxb4 TW hsb4
    obtain ⟨A4, c4, rfl, hc4, _, h4⟩ := hs4.open
    clear hs4
    generalize hL4 : args.length = L4 at *
    have HL4 := Lib.hid hL4; clear hL4
    have HH4 := Lib.hid h4; clear h4
    go_wp2_with (go_at_call 17; refine (stmt_any _ _ _ _ _).mono ?_; rintro e w5 ⟨rfl, hx5⟩)
    have lt5 := hx5.size
    have lt4 := hB3.lt
    have lt0 := hB0.lt
    have E0 : Ext w4 (w5.alloc (.cells #[.string ⟨#[]⟩, .bool false, .string name, .slice none 0 0] 31)) := hx5.alloc _
    have B5 := Blk.new w5 #[.string ⟨#[]⟩, .bool false, .string name, .slice none 0 0] 31
    have A5 := Args.nil (w5.alloc (.cells #[.string ⟨#[]⟩, .bool false, .string name, .slice none 0 0] 31)) (w5.heap.size + 1)
    go_loopw [74] (fun i wr => ∃ (k : Nat) (va : Value), k ≤ L4 ∧ i = .int .i64 k ∧ Ext w4 wr ∧ w5.heap.size < wr.heap.size ∧ Blk wr w5.heap.size #[.string ⟨#[]⟩, .bool false, .string name, va] ∧ Args wr (w5.heap.size + 1) va ((args.take k).map (operandS · n))) (fun i _ => L4 - (intOf i).toNat)
    case atStart => exact ⟨0, _, Nat.zero_le _, rfl, E0, by simp, B5, A5⟩
    case round =>
      obtain ⟨k, va, hk, rfl, E, hsz, B, HA⟩ := hrel
      obtain ⟨Av, cv, rfl⟩ := HA.slice
      have hlen : ((args.take k).map (operandS · n)).length = k := by simp [HL4.out, hk]
      rw [hlen] at B HA
      have HLEN := Lib.hid hlen; clear hlen
      have k5 := B.cell 3
      have kn := (hB3.ext E).cell 1
      have ko := (hB3.ext E).cell 0
      have f5 := B.frozen
      by_cases hlt : k < L4
      · obtain ⟨b4, o4, rfl, hlt4, hc4'⟩ := HH4.out (by omega)
        have ka := E.cell (hc4' k hlt)
        generalize hka : args.getD k ⟨#[]⟩ = a at *
        have HKA := Lib.hid hka; clear hka
        clear hc4' B5 A5 E0
        go_wp2
        have hN : ∀ g : Nat, g < w5.heap.size + 1 → some g ≠ (Value.slice Av k cv).ownBlock := fun g hg e => by have := (World.ownsRow.lt HA) g e.symm; omega
        have HN := Lib.hid hN; clear hN
        have hsz6 : w1.heap.size < wr.heap.size := by have := E.size; omega
        generalize hx : operandS a n = x
        have HX := Lib.hid hx; clear hx
        go_region_law (first
          | (refine step_append_lies _ (by rfl) _ _ _ (by rfl) (w5.heap.size + 1) 41 i0 _ 8 104 Tryz.underlying29 hi0 hz0 hz1 hz2 rfl (by omega) (.slice Av k cv) k _ (by rfl) ((Args.own (Args.ext (Args.drew HA) hx6) HLEN.out).alloc _) ⟨w6.heap.size, 0, none⟩ 1 1 [.string x.word, .string ⟨#[]⟩, .bool false, .bool x.mem, .string x.op, .int .u16 x.n, .string x.name, .slice none 0 0] (by rfl) (by rfl) (World.news_of_block (cs := #[.string x.word, .string ⟨#[]⟩, .bool false, .bool x.mem, .string x.op, .int .u16 x.n, .string x.name, .slice none 0 0]) (t := 41) (fr := (0, 0)) (heap_alloc_new w6 _)) (by simp [Value.oneCell']) (by omega) (by unfold maxLen; omega) (by omega) (by simp; omega) (w6.heap.size + 1) (by simp) ?_; intro gg cap w7 hown7 hgrow hat hlt7; have B7 := ((B.drew.ext hx6).alloc _).grown hgrow (HN.out _ (by omega)); have f7 := B7.frozen; have k7 := B7.cell 3; have HG := Lib.hid hgrow; have HAT := Lib.hid hat; have HO := Lib.hid hown7; clear hgrow hat hown7)
          | (go_simp; go_at_call 18; refine (operand_any _ _ _).mono ?_; rw [HX.out]; rintro e w6 ⟨rfl, hxa⟩; have hx6 := hxa; have sz6 : wr.heap.size ≤ w6.heap.size := hx6.size; have k6 := hx6.cell (p := ⟨w5.heap.size, 3, none⟩) k5; have l6 : w5.heap.size < w6.heap.size := Nat.lt_of_lt_of_le hsz sz6; have kn6 := hx6.cell (p := ⟨w1.heap.size, 1, none⟩) kn))
        all_goals
          go_wp2
          go_roundw
          case rel =>
            have hx7 : Ext w4 w7 := ext_grown ((E.drew.trans hx6).alloc _) HG.out (by intro g hg; have := (World.ownsRow.lt HA) g hg; omega)
            have hgg : w5.heap.size + 1 ≤ gg := by
              rcases HAT.out with h | h
              · exact ((World.ownsRow.lt HA) gg h).1
              · omega
            refine ⟨k + 1, .slice (some ⟨gg, 0, none⟩) (k + 1) cap, by omega, by go_num, ?_, ?_, ?_, ?_⟩
            · exact hx7.setCell (by simp; omega) _
            · simp; omega
            · exact B7.put 3 _
            · refine Args.setCell ?_ _ _ (by simp [Value.ownBlock]; omega)
              have ht : args.take (k + 1) = args.take k ++ [a] := by
                have h1 := HL4.out
                rw [List.take_add_one, ← HKA.out, getD_lt4 h1 hlt]; rfl
              rw [ht, List.map_append]
              simp only [List.map_cons, List.map_nil, HX.out]
              exact Args.snoc HO.out HLEN.out
          case measure => simp [intOf]; omega
      · obtain rfl : k = L4 := by omega
        have hB0' := hB0.ext E
        have k0 := hB0'.cell
        have f0 := hB0'.frozen
        have kk5 := B.cell
        clear k5 B5 A5 E0
        go_wp2
        have hne : ∀ j : Nat, (Value.slice Av k cv).ownBlock ≠ some (⟨w.heap.size, j, none⟩ : Addr).block := by
          intro j e
          have h := (World.ownsRow.lt HA) _ e
          have h1 : w5.heap.size + 1 ≤ w.heap.size := h.1
          omega
        have hlist : (args.take k).map (operandS · n) = args.map (operandS · n) := by rw [List.take_of_length_le (by have := HL4.out; omega)]
        rw [hlist, HLL.out] at HA
        have hlk : l.length = k := HL44.out
        refine bodyPost_ret (res3 rfl _ _ _ w.heap.size (.agg #[.string ⟨#[]⟩, .bool false, .string name, .slice Av k cv]) rfl (by simp (maxDischargeDepth := 20) [go_sem, k0, kk5])) rfl (RPiece.mk hlk ?_ ?_ ?_)
        · exact ((((Args.mono HA (by omega)).setCell _ _ (hne _)).setCell _ _ (hne _)).setCell _ _ (hne _)).setCell _ _ (hne _)
        · exact ((((hxw.trans E).setCell (by simp) _).setCell (by simp) _).setCell (by simp) _).setCell (by simp) _
        · simp [*]

theorem first80_0r (b : List Int) (v : Value) (w : World) (hb : Byts w v b) (hp : 0 < b.length) (o n size : Int) (hr : readS b = (o, n, size, 0)) (ho : 0 ≤ o ∧ o ≤ 255) (hn : 0 ≤ n ∧ n ≤ 65535) (hrst : (bits .and .u8 o 199 == 199) = true)
    (name : ByteArray) (hnm : nameOf (wordsS o) = name) (args : List ByteArray) (harg : (wordsS o).tail = args) (hl : True) (hlen4 : True) :
    Calls Tryz.prog 40 #[.int .i64 0, v] w (RPiece w name [numA false (o / 8 % 8)] size (if jumpsB o = true then n else -1)) := by
  have HNM := Lib.hid hnm; have HARG := Lib.hid harg; 
  clear hnm harg hl hlen4
  have HR := Lib.hid hr
  clear hr
  have HB := Lib.hid hb
  obtain ⟨i0, hi0, hz0, hz1, hz2⟩ := info_parts Tryz.info41
  obtain ⟨A, c, rfl, _⟩ := hb
  have hw1 : IntKind.u16.wrap (o / 8 % 8) = o / 8 % 8 := by rw [IntKind.wrap_u16]; omega
  have hw2 : IntKind.u16.wrap (o / 8 % 8 * 8) = o / 8 % 8 * 8 := by rw [IntKind.wrap_u16]; omega
  have hb7 := band7 (o / 8) (by omega) (by omega)
  go_enter Tryz.func40, Tryz.ntmps40
  go_wp2_with (first
    | (go_at_call 75; refine (read_any b _ _ (HB.out.ext (by with_reducible exact (Ext.refl _).alloc _))).mono ?_; rw [HR.out]; rintro e w1 ⟨rfl, hx1⟩; have hB1 := (Blk.new _ _ _).ext hx1)
    | (go_at_call 76; refine (jumps_any _ ho.1 (by omega) _).mono ?_; rintro e w2 ⟨rfl, hx2⟩; have hB2 := (Blk.new _ _ _).ext hx2; have hB1b := (hB1.alloc _).ext hx2; have k2 := hB2.cell; have lt1 := hB1.lt))
  all_goals
    go_region_held3 (fun W => W.cell? ⟨w1.heap.size, 0, none⟩ = some (.int .u8 o)) (first | go_keep | (exact (hxa.cell ‹_›)))
      (first
       | (go_at_call 77; refine (name_any _ ho.1 (by omega) _).mono ?_; rw [HNM.out]; rintro e w3 ⟨rfl, hxa⟩; have hx3 := hxa)
       | (go_at_call 78; refine (args_any _ ho.1 (by omega) _).mono ?_; rw [HARG.out]; rintro e w4 ⟨v4, rfl, hs4, hxa⟩; have hx4 := hxa))
  all_goals
    have hB3 := (hB2.drew.ext hx3).ext hx4
    have hB0 := (hB1b.drew.ext hx3).ext hx4
    have hxw : Ext w w4 := (((((Ext.refl w).alloc _).trans hx1).alloc _).trans hx2).drew.trans (hx3.trans hx4)
    have k3 := hB3.cell
    clear hB1 hB1b hB2 k2 hx1 hx2 hx3 hx4 hxa
    clear hs4
    have k0 := hB0.cell
    have f0 := hB0.frozen
    have lt0 := hB0.lt
    go_wp2_with (first
      | (go_at_call 18; refine (operand_any _ _ _).mono ?_; rw [show operandS ⟨#[110]⟩ (o / 8 % 8) = numA false (o / 8 % 8) from rfl]; rintro e w5 ⟨rfl, hx5⟩)
      | (go_at_call 17; refine (stmt_any _ _ _ _ _).mono ?_; rintro e w6 ⟨rfl, hx6⟩; have hB6 := ((hB0.ext hx5).alloc _).ext hx6; have k6 := hB6.cell; have f6 := hB6.frozen))
    have sz5 := hx5.size
    refine bodyPost_ret (res3 rfl _ _ _ w.heap.size (.agg #[.string ⟨#[]⟩, .bool false, .string name, .slice (some ⟨w5.heap.size, 0, none⟩) 1 1]) rfl (by simp (maxDischargeDepth := 20) [go_sem, k6])) rfl (RPiece.mk rfl ?_ ?_ ?_)
    · have h := (Args.one w5 w.heap.size _ rfl (by omega) (numA false (o / 8 % 8)) #[.string (numA false (o / 8 % 8)).word, .string ⟨#[]⟩, .bool false, .bool (numA false (o / 8 % 8)).mem, .string (numA false (o / 8 % 8)).op, .int .u16 (numA false (o / 8 % 8)).n, .string (numA false (o / 8 % 8)).name, .slice none 0 0] rfl).ext hx6
      have hne : ∀ j : Nat, (Value.slice (some ⟨w5.heap.size, 0, none⟩) 1 1).ownBlock ≠ some (⟨w.heap.size, j, none⟩ : Addr).block := by intro j; simp [Value.ownBlock]; omega
      exact (((h.setCell _ _ (hne _)).setCell _ _ (hne _)).setCell _ _ (hne _)).setCell _ _ (hne _)
    · exact ((((hxw.trans ((hx5.alloc _).trans hx6)).setCell (by simp) _).setCell (by simp) _).setCell (by simp) _).setCell (by simp) _
    · simp [*]

theorem first80_1r (b : List Int) (v : Value) (w : World) (hb : Byts w v b) (hp : 0 < b.length) (o n size : Int) (hT : Tab w) (hr : readS b = (o, n, size, 0)) (ho : 0 ≤ o ∧ o ≤ 255) (hn : 0 ≤ n ∧ n ≤ 65535) (hrst : (bits .and .u8 o 199 == 199) = true)
    (name : ByteArray) (hnm : nameOf (formS o) = name) (args : List ByteArray) (harg : (formS o).tail = args) (hl : True) (hlen4 : True) :
    Calls Tryz.prog 40 #[.int .i64 1, v] w (RPiece w name [numA false (o / 8 % 8 * 8)] size (if jumpsB o = true then n else -1)) := by
  have HNM := Lib.hid hnm; have HARG := Lib.hid harg; 
  clear hnm harg hl hlen4
  have HR := Lib.hid hr
  clear hr
  have HT := Lib.hid hT; clear hT
  have HB := Lib.hid hb
  obtain ⟨i0, hi0, hz0, hz1, hz2⟩ := info_parts Tryz.info41
  obtain ⟨A, c, rfl, _⟩ := hb
  have hw1 : IntKind.u16.wrap (o / 8 % 8) = o / 8 % 8 := by rw [IntKind.wrap_u16]; omega
  have hw2 : IntKind.u16.wrap (o / 8 % 8 * 8) = o / 8 % 8 * 8 := by rw [IntKind.wrap_u16]; omega
  have hb7 := band7 (o / 8) (by omega) (by omega)
  go_enter Tryz.func40, Tryz.ntmps40
  go_wp2_with (first
    | (go_at_call 75; refine (read_any b _ _ (HB.out.ext (by with_reducible exact (Ext.refl _).alloc _))).mono ?_; rw [HR.out]; rintro e w1 ⟨rfl, hx1⟩; have hB1 := (Blk.new _ _ _).ext hx1)
    | (go_at_call 76; refine (jumps_any _ ho.1 (by omega) _).mono ?_; rintro e w2 ⟨rfl, hx2⟩; have hB2 := (Blk.new _ _ _).ext hx2; have hB1b := (hB1.alloc _).ext hx2; have k2 := hB2.cell; have lt1 := hB1.lt; have TW : Ext w w2.drew := ((((Ext.refl w).alloc _).trans hx1).alloc _ |>.trans hx2).drew))
  all_goals
    go_region_held3 (fun W => W.cell? ⟨w1.heap.size, 0, none⟩ = some (.int .u8 o)) (first | go_keep | (exact (hxa.cell ‹_›)))
      (first
       | (go_at_call 77; refine (name_any _ ho.1 (by omega) _).mono ?_; rintro e wb3 ⟨rfl, hxa⟩; have hxb3 := hxa)
       | (go_at_call 78; refine (args_any _ ho.1 (by omega) _).mono ?_; rintro e wb4 ⟨vb4, rfl, hsb4, hxa⟩; have hxb4 := hxa))
  all_goals
    go_wp2_with fail
    go_region_held3 (fun W => W.cell? ⟨w1.heap.size, 0, none⟩ = some (.int .u8 o)) (first | go_keep | (exact (hxa.cell ‹_›)))
      (first
       | (go_at_call 79; refine (zname_any _ ho.1 (by omega) _ (HT.out.ext ((TW.trans hxb3).trans (hxb4.trans (ext_drew _))))).mono ?_; rw [HNM.out]; rintro e w3 ⟨rfl, hxa⟩; have hx3 := hxa)
       | (go_at_call 80; refine (zargs_any _ ho.1 (by omega) _ (HT.out.ext (((TW.trans hxb3).trans (hxb4.trans (ext_drew _))).trans hx3))).mono ?_; rw [HARG.out]; rintro e w4 ⟨v4, rfl, hs4, hxa⟩; have hx4 := hxa))
  all_goals
    have hB3 := ((((hB2.drew.ext hxb3).ext hxb4).drew).ext hx3).ext hx4
    have hB0 := ((((hB1b.drew.ext hxb3).ext hxb4).drew).ext hx3).ext hx4
    have hxw : Ext w w4 := ((TW.trans hxb3).trans (hxb4.trans (ext_drew _))).trans (hx3.trans hx4)
    have k3 := hB3.cell
    clear hB1 hB1b hB2 k2 hx1 hx2 hx3 hx4 hxa hxb3 hxb4 TW hsb4
    clear hs4
    have k0 := hB0.cell
    have f0 := hB0.frozen
    have lt0 := hB0.lt
    go_wp2_with (first
      | (go_at_call 18; refine (operand_any _ _ _).mono ?_; rw [show operandS ⟨#[110]⟩ (o / 8 % 8 * 8) = numA false (o / 8 % 8 * 8) from rfl]; rintro e w5 ⟨rfl, hx5⟩)
      | (go_at_call 17; refine (stmt_any _ _ _ _ _).mono ?_; rintro e w6 ⟨rfl, hx6⟩; have hB6 := ((hB0.ext hx5).alloc _).ext hx6; have k6 := hB6.cell; have f6 := hB6.frozen))
    have sz5 := hx5.size
    refine bodyPost_ret (res3 rfl _ _ _ w.heap.size (.agg #[.string ⟨#[]⟩, .bool false, .string name, .slice (some ⟨w5.heap.size, 0, none⟩) 1 1]) rfl (by simp (maxDischargeDepth := 20) [go_sem, k6])) rfl (RPiece.mk rfl ?_ ?_ ?_)
    · have h := (Args.one w5 w.heap.size _ rfl (by omega) (numA false (o / 8 % 8 * 8)) #[.string (numA false (o / 8 % 8 * 8)).word, .string ⟨#[]⟩, .bool false, .bool (numA false (o / 8 % 8 * 8)).mem, .string (numA false (o / 8 % 8 * 8)).op, .int .u16 (numA false (o / 8 % 8 * 8)).n, .string (numA false (o / 8 % 8 * 8)).name, .slice none 0 0] rfl).ext hx6
      have hne : ∀ j : Nat, (Value.slice (some ⟨w5.heap.size, 0, none⟩) 1 1).ownBlock ≠ some (⟨w.heap.size, j, none⟩ : Addr).block := by intro j; simp [Value.ownBlock]; omega
      exact (((h.setCell _ _ (hne _)).setCell _ _ (hne _)).setCell _ _ (hne _)).setCell _ _ (hne _)
    · exact ((((hxw.trans ((hx5.alloc _).trans hx6)).setCell (by simp) _).setCell (by simp) _).setCell (by simp) _).setCell (by simp) _
    · simp [*]
end

section
open Go.RowKit
set_option maxRecDepth 100000
set_option maxHeartbeats 4000000
set_option linter.unusedSimpArgs false
set_option linter.unusedVariables false

theorem first80_e (d : Int) (b : List Int) (v : Value) (w : World) (hb : Byts w v b) (hp : 0 < b.length) (hr : (readS b).2.2.2 ≠ 0) :
    Calls Tryz.prog 40 #[.int .i64 d, v] w (RPiece w ⟨#[68, 66]⟩ [numA false (b.getD 0 0)] 1 (-1)) := by
  have HB := Lib.hid hb
  obtain ⟨A, c, rfl, hc1, hc2, hrg, hcs⟩ := hb
  obtain ⟨g, o, rfl, hlt, hc⟩ := hcs hp
  have r0 := getD_range hrg 0
  have hc0 := hc 0 hp
  simp only [Nat.add_zero] at hc0
  generalize hx0 : b.getD 0 0 = x0 at *
  generalize hR : readS b = R at *
  have HX0 := Lib.hid hx0; have HR := Lib.hid hR
  clear hx0 hR hc hrg hcs
  obtain ⟨o1, n1, s1, k1⟩ := R
  simp only at hr
  go_enter Tryz.func40, Tryz.ntmps40
  go_wp2_with (first
    | (go_at_call 75; refine (read_any b _ _ (HB.out.ext (by with_reducible exact (Ext.refl _).alloc _))).mono ?_; rw [HR.out]; rintro e w1 ⟨rfl, hx1⟩; have hB1 := (Blk.new _ _ _).ext hx1; have kb := (((Ext.refl _).alloc _).trans hx1).cell hc0; have ltg : g < w1.heap.size := Nat.lt_of_lt_of_le hlt (((Ext.refl _).alloc _).trans hx1).size)
    | (go_at_call 71; refine (db_any _ r0.1 r0.2 _).mono ?_; rintro e w2 ⟨A2, c2, rfl, hA2, hx2⟩; have hB2 := (hB1.alloc _).ext hx2; have k := hB2.cell; have f := hB2.frozen; have lt1 := hB1.lt))
  have hne : ∀ j : Nat, (Value.slice A2 1 c2).ownBlock ≠ some (⟨w.heap.size, j, none⟩ : Addr).block := by
    intro j e
    have h := (World.ownsRow.lt hA2) _ e
    have h1 := h.1
    simp at h1
    omega
  refine bodyPost_ret (res3 rfl _ _ _ w.heap.size (.agg #[.string ⟨#[]⟩, .bool false, .string ⟨#[68, 66]⟩, .slice A2 1 c2]) rfl (by simp (maxDischargeDepth := 20) [go_sem, k])) rfl (RPiece.mk rfl ?_ ?_ rfl)
  · exact ((((Args.mono hA2 (by have := lt1; simp at this ⊢; omega)).setCell _ _ (hne _)).setCell _ _ (hne _)).setCell _ _ (hne _)).setCell _ _ (hne _)
  · have hxw : Ext w w2 := ((((Ext.refl w).alloc _).trans hx1).alloc _).trans hx2
    exact (((hxw.setCell (by simp) _).setCell (by simp) _).setCell (by simp) _).setCell (by simp) _
end
end Go.Proofs.YtnklmehphmidhaaGreatDoor
