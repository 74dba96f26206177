/- disasm: all pieces: the walk. -/
import Derived.Test.YtnklmehphmidhaaGreatDoorDif
import Derived.Deep.CutBlock
import Derived.Maps.AppendAt
namespace Go.Proofs.YtnklmehphmidhaaGreatDoor
open Go.RowKit
set_option maxRecDepth 100000
set_option maxHeartbeats 4000000
set_option linter.unusedSimpArgs false
set_option linter.unusedVariables false

theorem Blk.put7 {w : World} {g : Nat} {a0 a1 a2 a3 a4 a5 a6 : Value} (h : Blk w g #[a0, a1, a2, a3, a4, a5, a6]) (x0 x1 x2 x3 x5 x6 : Value) :
    Blk ((((((w.setCell ⟨g, 0, none⟩ x0).setCell ⟨g, 1, none⟩ x1).setCell ⟨g, 2, none⟩ x2).setCell ⟨g, 3, none⟩ x3).setCell ⟨g, 5, none⟩ x5).setCell ⟨g, 6, none⟩ x6) g #[x0, x1, x2, x3, a4, x5, x6] :=
  (((((h.put 0 x0).put 1 x1).put 2 x2).put 3 x3).put 5 x5).put 6 x6

theorem sweep_any (d : Int) (F : Int → List Int → Piece) (w0 : World)
    (hF : ∀ (p : Int) (b : List Int) (v : Value) (W : World), Ext w0 W → Byts W v b → 0 < b.length → 0 ≤ p → p + b.length ≤ 65536 →
      (d = 2 → Calls Tryz.prog 39 #[.int .i64 p, v] W (RPiece W (F p b).op (F p b).args (F p b).size (F p b).tgt)) ∧
      (d ≠ 2 → Calls Tryz.prog 40 #[.int .i64 d, v] W (RPiece W (F p b).op (F p b).args (F p b).size (F p b).tgt)) ∧ 1 ≤ (F p b).size ∧ (F p b).size ≤ b.length)
    (p0 : Int) (b : List Int) (v : Value) (w : World) (h0 : Ext w0 w) (hb : Byts w v b) (hp : 0 ≤ p0) (hpl : p0 + b.length ≤ 65536) :
    Calls Tryz.prog 16 #[.int .i64 d, .int .i64 p0, v] w fun e w' => ∃ A c L, L.map (fun x : PL => (x.at_, x.p)) = sweepS F b.length p0 b ∧ e = .returned (.slice A L.length c) ∧ Pieces w' w.heap.size (.slice A L.length c) L ∧ Ext w w' := by
  obtain ⟨i0, hi0, hz0, hz1, hz2⟩ := info_parts Tryz.info50
  have HF := Lib.hid hF; clear hF
  generalize hSW : sweepS F b.length p0 b = SW
  have HB := Lib.hid hb
  obtain ⟨A, c, rfl, hc1, hc2, hrg, hcs⟩ := hb
  have hlen : b.length ≤ 65536 := by omega
  clear hrg hcs
  go_enter Tryz.func16, Tryz.ntmps16
  go_wp2
  go_loopw [1, 2, 6] (fun p vb vo wr => ∃ (pi : Int) (bi : List Int) (f : Nat) (L : List PL), p = .int .i64 pi ∧ 0 ≤ pi ∧ pi + bi.length ≤ 65536 ∧ Byts w vb bi ∧ bi.length ≤ f ∧ SW = L.map (fun x : PL => (x.at_, x.p)) ++ sweepS F f pi bi ∧ L.length + bi.length ≤ 65536 ∧ Pieces wr w.heap.size vo L ∧ Ext w wr) (fun _ vb _ _ => match vb with | .slice _ n _ => n | _ => 0)
  case atStart => exact ⟨p0, b, b.length, [], rfl, hp, hpl, HB.out, Nat.le_refl _, by simp [hSW], by simp; omega, Pieces.nil _ _, Ext.refl _⟩
  case round =>
    obtain ⟨pi, bi, f, L, rfl, hpi, hpe, hbi, hf, hS, hLb, hP, E⟩ := hrel
    have HBI := Lib.hid hbi
    obtain ⟨Ab, cb, rfl, hcb1, hcb2, _, _⟩ := hbi
    have HP := Lib.hid hP
    obtain ⟨Av, cv, rfl⟩ := hP.slice
    clear hP
    by_cases hlt : 0 < bi.length
    · obtain ⟨F1, F2, F3, F4⟩ := HF.out pi bi _ (wr.alloc (.cells #[.string ⟨#[]⟩, .bool false, .string ⟨#[]⟩, .slice none 0 0, .int .i64 pi, .int .i64 0, .int .i64 0] 50)) ((h0.trans E).alloc _) (HBI.out.ext (E.alloc _)) hlt hpi hpe
      generalize hFp : F pi bi = q at *
      have HFP := Lib.hid hFp; clear hFp
      have HS := Lib.hid hS; have HSW := Lib.hid hSW; clear hS hSW
      obtain ⟨qop, qargs, qsize, qtgt⟩ := q
      simp only at F1 F2 F3 F4
      obtain ⟨sz, rfl⟩ := Int.eq_ofNat_of_zero_le (show 0 ≤ qsize by omega)
      rcases Bool.eq_false_or_eq_true (d == 2) with hd | hd
      · have F1' := F1 (by simpa using hd)
        clear F1 F2
        go_upto_region 7 with (go_at_call 39; refine F1'.mono ?_; rintro e w5 ⟨A5, c5, rfl, hA5, hx5⟩; have hB5 := (Blk.new _ _ _).ext hx5; have lt5 := hB5.lt; have k5 := hB5.cell; have f5 := hB5.frozen; have hB6 := hB5.put7 (.string ⟨#[]⟩) (.bool false) (.string qop) (.slice A5 qargs.length c5) (.int .i64 sz) (.int .i64 qtgt))
        have E6 : Ext wr ((((((w5.setCell ⟨wr.heap.size, 0, none⟩ (.string ⟨#[]⟩)).setCell ⟨wr.heap.size, 1, none⟩ (.bool false)).setCell ⟨wr.heap.size, 2, none⟩ (.string qop)).setCell ⟨wr.heap.size, 3, none⟩ (.slice A5 qargs.length c5)).setCell ⟨wr.heap.size, 5, none⟩ (.int .i64 sz)).setCell ⟨wr.heap.size, 6, none⟩ (.int .i64 qtgt)) :=
          ((((((((Ext.refl wr).alloc _).trans hx5).setCell (by simp) _).setCell (by simp) _).setCell (by simp) _).setCell (by simp) _).setCell (by simp) _).setCell (by simp) _
        have nA : ∀ j : Nat, (Value.slice A5 qargs.length c5).ownBlock ≠ some (⟨wr.heap.size, j, none⟩ : Addr).block := by
          intro j e
          have h := (hA5.lt _ e).1
          simp at h
          omega
        have A6 := (((((hA5.setCell ⟨wr.heap.size, 0, none⟩ (.string ⟨#[]⟩) (nA 0)).setCell ⟨wr.heap.size, 1, none⟩ (.bool false) (nA 1)).setCell ⟨wr.heap.size, 2, none⟩ (.string qop) (nA 2)).setCell ⟨wr.heap.size, 3, none⟩ (.slice A5 qargs.length c5) (nA 3)).setCell ⟨wr.heap.size, 5, none⟩ (.int .i64 sz) (nA 5)).setCell ⟨wr.heap.size, 6, none⟩ (.int .i64 qtgt) (nA 6)
        generalize ((((((w5.setCell ⟨wr.heap.size, 0, none⟩ (.string ⟨#[]⟩)).setCell ⟨wr.heap.size, 1, none⟩ (.bool false)).setCell ⟨wr.heap.size, 2, none⟩ (.string qop)).setCell ⟨wr.heap.size, 3, none⟩ (.slice A5 qargs.length c5)).setCell ⟨wr.heap.size, 5, none⟩ (.int .i64 sz)).setCell ⟨wr.heap.size, 6, none⟩ (.int .i64 qtgt)) = w6 at *
        clear hA5 hx5 hB5 lt5 k5 f5 nA
        have k6 := hB6.cell
        have f6 := hB6.frozen
        have lt6 := hB6.lt
        have P6 := HP.out.ext E6
        have ltw := E.size
        have HN := Lib.hid (show ∀ g : Nat, wr.heap.size ≤ g → some g ≠ (Value.slice Av L.length cv).ownBlock from fun g hg e => by have := (World.ownsRow.lt HP.out.row) g e.symm; omega)
        go_wp2_with (at_builtin; refine wpList_append_own_at _ rfl _ _ _ rfl w.heap.size 50 i0 _ 7 88 Tryz.underlying46 hi0 hz0 hz1 hz2 rfl (by omega) (.slice Av L.length cv) L.length _ (by rfl) (P6.row.alloc _) ⟨w6.heap.size, 0, none⟩ 1 1 [.string ⟨#[]⟩, .bool false, .string qop, .slice A5 qargs.length c5, .int .i64 pi, .int .i64 sz, .int .i64 qtgt] (by rfl) (by rfl) (World.news_of_block (cs := #[.string ⟨#[]⟩, .bool false, .string qop, .slice A5 qargs.length c5, .int .i64 pi, .int .i64 sz, .int .i64 qtgt]) (t := 50) (fr := (0, 0)) (heap_alloc_new _ _)) (by simp [Value.oneCell']) (by unfold maxLen; omega) (by omega) (by simp; omega) ?_; intro v7 w7 hown7 hgrow _ hat; have hB7 := (hB6.alloc _).grown hgrow (HN.out _ (by omega)); have k7 := hB7.cell; have f7 := hB7.frozen)
        clear k6 f6 lt6 P6 HN
        have k75 : w7.cell? ⟨wr.heap.size, 5, none⟩ = some (.int .i64 sz) := k7 5
        have G1 : sz ≤ bi.length := by omega
        have G2 : (0 : Int) ≤ (sz : Int) := by omega
        go_quiet (fail)
        go_wp2
        go_roundw
        case rel =>
          obtain ⟨f', rfl, hcons⟩ := sweepS_cons F f pi bi hlt hf
          rw [HFP.out] at hcons
          simp only [Int.toNat_natCast] at hcons
          have hown := hown7
          have h67 : Ext w6 (w6.alloc (.cells #[.string ⟨#[]⟩, .bool false, .string qop, .slice A5 qargs.length c5, .int .i64 pi, .int .i64 sz, .int .i64 qtgt] 50)) := (Ext.refl _).alloc _
          have ltA : ∀ k, (Value.slice A5 qargs.length c5).ownBlock = some k → wr.heap.size + 1 ≤ k := fun k hk => by have := (A6.lt k hk).1; simpa using this
          have hfar : ∀ y ∈ L, apart y.v (.slice A5 qargs.length c5) := fun y hy g hg e => by
            have h1 := ((HP.out.args y hy).lt g hg).2
            have h2 := ltA g e
            omega
          have hoff : apart (.slice A5 qargs.length c5) (.slice Av L.length cv) := fun g hg e => by
            have h1 := (World.ownsRow.lt HP.out.row g e).2
            have h2 := ltA g hg
            omega
          have P7 := Pieces.snoc (x := ⟨.slice A5 qargs.length c5, pi, ⟨qop, qargs, sz, qtgt⟩⟩) ((HP.out.ext E6).ext h67) rfl ((A6.ext h67).mono (by simp; omega)) hfar hoff hown7 hgrow hat
          have E7 : Ext w w7 := ext_grown ((E.trans E6).alloc _) hgrow (fun k hk => (World.ownsRow.lt HP.out.row k hk).1)
          refine ⟨pi + sz, bi.drop sz, f', L ++ [⟨.slice A5 qargs.length c5, pi, ⟨qop, qargs, sz, qtgt⟩⟩], rfl, by omega, by rw [List.length_drop]; omega, ?_, by rw [List.length_drop]; omega, ?_, by rw [List.length_drop, List.length_append]; simp; omega, ?_, E7.drewN _⟩
          · exact Byts.drop HBI.out G1
          · rw [HS.out, hcons]; simp
          · exact P7.ext ((Ext.refl _).drewN _)
        case measure => simp; omega
      · have F1' := F2 (by simpa using hd)
        clear F1 F2
        go_upto_region 7 with (go_at_call 40; refine F1'.mono ?_; rintro e w5 ⟨A5, c5, rfl, hA5, hx5⟩; have hB5 := (Blk.new _ _ _).ext hx5; have lt5 := hB5.lt; have k5 := hB5.cell; have f5 := hB5.frozen; have hB6 := hB5.put7 (.string ⟨#[]⟩) (.bool false) (.string qop) (.slice A5 qargs.length c5) (.int .i64 sz) (.int .i64 qtgt))
        have E6 : Ext wr ((((((w5.setCell ⟨wr.heap.size, 0, none⟩ (.string ⟨#[]⟩)).setCell ⟨wr.heap.size, 1, none⟩ (.bool false)).setCell ⟨wr.heap.size, 2, none⟩ (.string qop)).setCell ⟨wr.heap.size, 3, none⟩ (.slice A5 qargs.length c5)).setCell ⟨wr.heap.size, 5, none⟩ (.int .i64 sz)).setCell ⟨wr.heap.size, 6, none⟩ (.int .i64 qtgt)) :=
          ((((((((Ext.refl wr).alloc _).trans hx5).setCell (by simp) _).setCell (by simp) _).setCell (by simp) _).setCell (by simp) _).setCell (by simp) _).setCell (by simp) _
        have nA : ∀ j : Nat, (Value.slice A5 qargs.length c5).ownBlock ≠ some (⟨wr.heap.size, j, none⟩ : Addr).block := by
          intro j e
          have h := (hA5.lt _ e).1
          simp at h
          omega
        have A6 := (((((hA5.setCell ⟨wr.heap.size, 0, none⟩ (.string ⟨#[]⟩) (nA 0)).setCell ⟨wr.heap.size, 1, none⟩ (.bool false) (nA 1)).setCell ⟨wr.heap.size, 2, none⟩ (.string qop) (nA 2)).setCell ⟨wr.heap.size, 3, none⟩ (.slice A5 qargs.length c5) (nA 3)).setCell ⟨wr.heap.size, 5, none⟩ (.int .i64 sz) (nA 5)).setCell ⟨wr.heap.size, 6, none⟩ (.int .i64 qtgt) (nA 6)
        generalize ((((((w5.setCell ⟨wr.heap.size, 0, none⟩ (.string ⟨#[]⟩)).setCell ⟨wr.heap.size, 1, none⟩ (.bool false)).setCell ⟨wr.heap.size, 2, none⟩ (.string qop)).setCell ⟨wr.heap.size, 3, none⟩ (.slice A5 qargs.length c5)).setCell ⟨wr.heap.size, 5, none⟩ (.int .i64 sz)).setCell ⟨wr.heap.size, 6, none⟩ (.int .i64 qtgt)) = w6 at *
        clear hA5 hx5 hB5 lt5 k5 f5 nA
        have k6 := hB6.cell
        have f6 := hB6.frozen
        have lt6 := hB6.lt
        have P6 := HP.out.ext E6
        have ltw := E.size
        have HN := Lib.hid (show ∀ g : Nat, wr.heap.size ≤ g → some g ≠ (Value.slice Av L.length cv).ownBlock from fun g hg e => by have := (World.ownsRow.lt HP.out.row) g e.symm; omega)
        go_wp2_with (at_builtin; refine wpList_append_own_at _ rfl _ _ _ rfl w.heap.size 50 i0 _ 7 88 Tryz.underlying46 hi0 hz0 hz1 hz2 rfl (by omega) (.slice Av L.length cv) L.length _ (by rfl) (P6.row.alloc _) ⟨w6.heap.size, 0, none⟩ 1 1 [.string ⟨#[]⟩, .bool false, .string qop, .slice A5 qargs.length c5, .int .i64 pi, .int .i64 sz, .int .i64 qtgt] (by rfl) (by rfl) (World.news_of_block (cs := #[.string ⟨#[]⟩, .bool false, .string qop, .slice A5 qargs.length c5, .int .i64 pi, .int .i64 sz, .int .i64 qtgt]) (t := 50) (fr := (0, 0)) (heap_alloc_new _ _)) (by simp [Value.oneCell']) (by unfold maxLen; omega) (by omega) (by simp; omega) ?_; intro v7 w7 hown7 hgrow _ hat; have hB7 := (hB6.alloc _).grown hgrow (HN.out _ (by omega)); have k7 := hB7.cell; have f7 := hB7.frozen)
        clear k6 f6 lt6 P6 HN
        have k75 : w7.cell? ⟨wr.heap.size, 5, none⟩ = some (.int .i64 sz) := k7 5
        have G1 : sz ≤ bi.length := by omega
        have G2 : (0 : Int) ≤ (sz : Int) := by omega
        go_quiet (fail)
        go_wp2
        go_roundw
        case rel =>
          obtain ⟨f', rfl, hcons⟩ := sweepS_cons F f pi bi hlt hf
          rw [HFP.out] at hcons
          simp only [Int.toNat_natCast] at hcons
          have hown := hown7
          have h67 : Ext w6 (w6.alloc (.cells #[.string ⟨#[]⟩, .bool false, .string qop, .slice A5 qargs.length c5, .int .i64 pi, .int .i64 sz, .int .i64 qtgt] 50)) := (Ext.refl _).alloc _
          have ltA : ∀ k, (Value.slice A5 qargs.length c5).ownBlock = some k → wr.heap.size + 1 ≤ k := fun k hk => by have := (A6.lt k hk).1; simpa using this
          have hfar : ∀ y ∈ L, apart y.v (.slice A5 qargs.length c5) := fun y hy g hg e => by
            have h1 := ((HP.out.args y hy).lt g hg).2
            have h2 := ltA g e
            omega
          have hoff : apart (.slice A5 qargs.length c5) (.slice Av L.length cv) := fun g hg e => by
            have h1 := (World.ownsRow.lt HP.out.row g e).2
            have h2 := ltA g hg
            omega
          have P7 := Pieces.snoc (x := ⟨.slice A5 qargs.length c5, pi, ⟨qop, qargs, sz, qtgt⟩⟩) ((HP.out.ext E6).ext h67) rfl ((A6.ext h67).mono (by simp; omega)) hfar hoff hown7 hgrow hat
          have E7 : Ext w w7 := ext_grown ((E.trans E6).alloc _) hgrow (fun k hk => (World.ownsRow.lt HP.out.row k hk).1)
          refine ⟨pi + sz, bi.drop sz, f', L ++ [⟨.slice A5 qargs.length c5, pi, ⟨qop, qargs, sz, qtgt⟩⟩], rfl, by omega, by rw [List.length_drop]; omega, ?_, by rw [List.length_drop]; omega, ?_, by rw [List.length_drop, List.length_append]; simp; omega, ?_, E7.drewN _⟩
          · exact Byts.drop HBI.out G1
          · rw [HS.out, hcons]; simp
          · exact P7.ext ((Ext.refl _).drewN _)
        case measure => simp; omega
    · have h0 : bi.length = 0 := by omega
      have hsl : sweepS F f pi bi = [] := sweepS_nil F f pi bi h0
      rw [hsl] at hS
      simp only [List.append_nil] at hS
      have HS := Lib.hid hS; have HSW := Lib.hid hSW; clear hS hSW hsl
      go_wp2
      go_ret
      exact ⟨Av, cv, L, HS.out.symm, rfl, HP.out, E⟩
end Go.Proofs.YtnklmehphmidhaaGreatDoor
