/- disasm.Stmts: the walk. -/
import Derived.Test.YtnklmehphmidhaaGreatDoorDil
import Derived.Deep.CutBlock
import Derived.Deep.MidRow
namespace Go.Proofs.YtnklmehphmidhaaGreatDoor
open Go.RowKit
set_option maxRecDepth 100000
set_option maxHeartbeats 4000000
set_option linter.unusedSimpArgs false
set_option linter.unusedVariables false

theorem stmts_any (d : Int) (F : Int → List Int → Piece) (w0 : World)
    (hF : ∀ (p : Int) (b : List Int) (v : Value) (W : World), Ext w0 W → Byts W v b → 0 < b.length → 0 ≤ p → p + b.length ≤ 65536 →
      (d = 2 → Calls Tryz.prog 39 #[.int .i64 p, v] W (RPiece W (F p b).op (F p b).args (F p b).size (F p b).tgt)) ∧
      (d ≠ 2 → Calls Tryz.prog 40 #[.int .i64 d, v] W (RPiece W (F p b).op (F p b).args (F p b).size (F p b).tgt)) ∧ 1 ≤ (F p b).size ∧ (F p b).size ≤ b.length)
    (p0 : Int) (hp : i64ok p0) (b : List Int) (v : Value) (w : World) (h0 : Ext w0 w) (hb : Byts w v b) (hG : 0 ≤ p0 → p0 + b.length ≤ 65536 → ∀ x ∈ sweepS F b.length p0 b, Good x) :
    Calls Tryz.prog 9 #[.int .i64 d, .int .i64 p0, v] w (RStmts w (stmtsS F d p0 b)) := by
  have HB := Lib.hid hb
  obtain ⟨A, c, rfl, hc1, hc2, _, _⟩ := hb
  have hmm := @run_makeMap Tryz.prog
  obtain ⟨i1, hi0, hz0, hz1, hz2⟩ := info_parts Tryz.info31
  have HF := Lib.hid hF; clear hF
  by_cases hd0 : d < 0
  · go_enter Tryz.func9, Tryz.ntmps9
    go_wp2
    go_ret2
    exact RStmts.none (by simp [stmtsS, hd0]) (Ext.refl _)
  by_cases hd2 : 2 < d
  · go_enter Tryz.func9, Tryz.ntmps9
    go_wp2
    go_ret2
    exact RStmts.none (by simp [stmtsS, hd2]) (Ext.refl _)
  by_cases hp0 : p0 < 0
  · go_enter Tryz.func9, Tryz.ntmps9
    go_wp2
    go_ret2
    exact RStmts.none (by simp [stmtsS, hp0]) (Ext.refl _)
  by_cases hl : 65536 < b.length
  · go_enter Tryz.func9, Tryz.ntmps9
    go_wp2
    go_ret2
    exact RStmts.none (by unfold stmtsS; rw [if_neg (by omega), if_pos (by omega)]) (Ext.refl _)
  have hq1 := hp.1; have hq2 := hp.2
  by_cases hl2 : (65536 : Int) - b.length < p0
  · go_enter Tryz.func9, Tryz.ntmps9
    go_wp2
    all_goals go_ret2
    exact RStmts.none (by unfold stmtsS; rw [if_neg (by omega), if_pos (by omega)]) (Ext.refl _)
  by_cases hl0 : b.length = 0
  · go_enter Tryz.func9, Tryz.ntmps9
    go_wp2
    go_ret2
    exact RStmts.none (by unfold stmtsS; rw [if_neg (by omega), if_neg (by omega), if_pos hl0]) (Ext.refl _)
  have hG' := hG (by omega) (by omega)
  have hS : stmtsS F d p0 b = (allS (sweepS F b.length p0 b) p0, 0) := by
    unfold stmtsS
    rw [if_neg (by omega), if_neg (by omega), if_neg hl0]
  have hSL := sweepS_len F b.length p0 b
  rw [hS]
  generalize hSW : sweepS F b.length p0 b = SW at *
  have HSW := Lib.hid hSW; clear hSW hS hG
  go_enter Tryz.func9, Tryz.ntmps9
  go_wp2_with (go_at_call 16; refine (sweep_any d F w0 HF.out p0 b _ w h0 HB.out (by omega) (by omega)).mono ?_; rw [HSW.out]; rintro e w1 ⟨A1, c1, L, hL, rfl, P1, E1⟩)
  have hL1 : 0 < L.length := by
    obtain ⟨f', _, hc⟩ := sweepS_cons F b.length p0 b (by omega) (Nat.le_refl _)
    rw [HSW.out] at hc
    have := congrArg List.length hL
    rw [hc] at this
    simp at this
    omega
  have hLn : L.length = SW.length := by have := congrArg List.length hL; simpa using this
  obtain ⟨g, cur, rfl, hg⟩ : ∃ g cur, A1 = some ⟨g, 0, none⟩ ∧ w.heap.size ≤ g := by
    rcases P1.row.2 with ⟨hv, _⟩ | ⟨g, cap, cur, hv, hg, _⟩
    · injection hv with _ h _; omega
    · injection hv with h _ _; exact ⟨g, cur, h, hg⟩
  have hgl : g < w1.heap.size := (World.ownsRow.lt P1.row g rfl).2
  have HP1 := Lib.hid P1; clear P1
  have HL := Lib.hid hL; clear hL
  have HG := Lib.hid hG'; clear hG'
  have hLb : L.length ≤ 65536 := by omega
  have HLN := Lib.hid hLn; clear hLn
  go_loopw [45] (fun i wr => ∃ k sz, k ≤ L.length ∧ i = .int .i64 (k : Nat) ∧ Ext w1 wr ∧ w1.heap.size + 2 ≤ wr.heap.size ∧ Marks wr w1.heap.size k (wantB (SW.take k)) sz ∧ Marks wr (w1.heap.size + 1) 0 (markB []) 0) (fun i _ => L.length - (intOf i).toNat)
  case atStart => exact ⟨0, 0, by omega, rfl, ((Ext.refl _).alloc _).alloc _, by simp, (Marks.made w1).ext ((Ext.refl _).alloc _), by have h := Marks.made (w1.alloc (.map #[] 0)); rw [show (fun _ : Int => false) = markB [] from by funext y; simp [markB]] at h; simpa using h⟩
  case round =>
    obtain ⟨k, sz, hk, rfl, E2, hsz, M1, M2⟩ := hrel
    by_cases hlt : k < L.length
    · obtain ⟨x, hx⟩ : ∃ x, L[k]? = some x := ⟨_, List.getElem?_eq_getElem hlt⟩
      have hgr : g < wr.heap.size := by omega
      have HM1 := Lib.hid M1; have HM2 := Lib.hid M2; clear M1 M2
      obtain ⟨x0, x1, x2, x3, x4, x5, x6⟩ := piece_cells (HP1.out.ext E2).row hx
      have hB := (Blk.new wr #[.string ⟨#[]⟩, .bool false, .string x.p.op, x.v, .int .i64 x.at_, .int .i64 x.p.size, .int .i64 x.p.tgt] 50)
      have HX := Lib.hid hx; clear hx
      obtain ⟨vx, ax, ⟨ox, lx, sx, tx⟩⟩ := x
      simp only at x0 x1 x2 x3 x4 x5 x6 hB
      have hA := HP1.out.args _ (List.mem_of_getElem? HX.out)
      simp only at hA
      obtain ⟨Ax, cx, hv⟩ := hA.slice
      clear hA
      subst hv
      go_upto_region 15 with fail
      have hpk : SW[k]? = some (ax, ⟨ox, lx, sx, tx⟩) := by rw [← HL.out, List.getElem?_map, HX.out]; rfl
      have hgd := HG.out _ (List.mem_of_getElem? hpk)
      have htx : i64ok tx := ⟨by have := hgd.t0; simp at this; omega, by have := hgd.t1; simp at this; omega⟩
      obtain ⟨wm, hrun, M1', hgrow⟩ := ((HM1.out.ext ((Ext.refl _).alloc _)) : Marks (wr.alloc (.cells #[.string ⟨#[]⟩, .bool false, .string ox, .slice Ax lx.length cx, .int .i64 ax, .int .i64 sx, .int .i64 tx] 50)) _ _ _ _).update (by omega) htx
      have HPK := Lib.hid hpk; clear hpk
      clear hgd
      have HM1' := Lib.hid M1'; clear M1'
      have HGR := Lib.hid hgrow; clear hgrow
      go_wp2
      have hx2 : Ext w1 wm := ext_grown (E2.alloc _) HGR.out (fun j hj => by injection hj with hj; omega)
      have hM2 := (HM2.out.ext ((Ext.refl _).alloc _)).grown HGR.out (by simp)
      have hM1 := HM1'.out
      have htk : SW.take (k + 1) = SW.take k ++ [(ax, ⟨ox, lx, sx, tx⟩)] := by rw [List.take_add_one, HPK.out]; rfl
      have hsz2 : w1.heap.size + 2 ≤ wm.heap.size := by have := HGR.out.size; simp at this; omega
      rw [wantB_snoc (SW.take k) (ax, ⟨ox, lx, sx, tx⟩), ← htk] at hM1
      obtain ⟨sz', hM1'⟩ : ∃ s, Marks wm w1.heap.size (k + 1) (wantB (SW.take (k + 1))) s := ⟨_, hM1⟩
      refine ⟨⟨k + 1, sz', by omega, by go_num, hx2, hsz2, hM1', hM2⟩, by simp [intOf]; omega⟩
    · obtain rfl : k = L.length := by omega
      have hE0 := E2
      have HM1 := Lib.hid M1; have HM2 := Lib.hid M2; clear M1 M2
      go_wp2
      have hWT : wantB (SW.take L.length) = wantB SW := by rw [HLN.out, List.take_length]
      rw [hWT] at HM1
      generalize hW : wantB SW = W at *
      have HW := Lib.hid hW; clear hW hWT
      clear hlt hk
      go_loopw [55] (fun i wr => ∃ k, k ≤ L.length ∧ i = .int .i64 (k : Nat) ∧ Ext w1 wr ∧ w1.heap.size + 2 ≤ wr.heap.size ∧ Marks wr w1.heap.size L.length W sz ∧ Marks wr (w1.heap.size + 1) k (markB (markL W (SW.take k))) (markL W (SW.take k)).length) (fun i _ => L.length - (intOf i).toNat)
      case atStart => exact ⟨0, by omega, rfl, E2, hsz, HM1.out, HM2.out⟩
      case round =>
        clear E2 hsz HM1 HM2 hE0
        obtain ⟨k, hk, rfl, E2, hsz, M1, M2⟩ := hrel
        by_cases hlt : k < L.length
        · obtain ⟨x, hx⟩ : ∃ x, L[k]? = some x := ⟨_, List.getElem?_eq_getElem hlt⟩
          have hgr : g < wr.heap.size := by omega
          have HM1 := Lib.hid M1; have HM2 := Lib.hid M2; clear M1 M2
          obtain ⟨x0, x1, x2, x3, x4, x5, x6⟩ := piece_cells (HP1.out.ext E2).row hx
          have hB := (Blk.new wr #[.string ⟨#[]⟩, .bool false, .string x.p.op, x.v, .int .i64 x.at_, .int .i64 x.p.size, .int .i64 x.p.tgt] 50)
          have HX := Lib.hid hx; clear hx
          obtain ⟨vx, ax, ⟨ox, lx, sx, tx⟩⟩ := x
          simp only at x0 x1 x2 x3 x4 x5 x6 hB
          have hA := HP1.out.args _ (List.mem_of_getElem? HX.out)
          simp only at hA
          obtain ⟨Ax, cx, hv⟩ := hA.slice
          clear hA
          subst hv
          have hpk : SW[k]? = some (ax, ⟨ox, lx, sx, tx⟩) := by rw [← HL.out, List.getElem?_map, HX.out]; rfl
          have hgd := HG.out _ (List.mem_of_getElem? hpk)
          have hax : i64ok ax := ⟨by have := hgd.a0; simp at this; omega, by have := hgd.a1; simp at this; omega⟩
          have M1' := ((HM1.out.ext ((Ext.refl _).alloc _)) : Marks (wr.alloc (.cells #[.string ⟨#[]⟩, .bool false, .string ox, .slice Ax lx.length cx, .int .i64 ax, .int .i64 sx, .int .i64 tx] 50)) _ _ _ _)
          have M2' := ((HM2.out.ext ((Ext.refl _).alloc _)) : Marks (wr.alloc (.cells #[.string ⟨#[]⟩, .bool false, .string ox, .slice Ax lx.length cx, .int .i64 ax, .int .i64 sx, .int .i64 tx] 50)) _ _ _ _)
          have hlook := M1'.look hax
          have hlen := M2'.len 3
          have htk : SW.take (k + 1) = SW.take k ++ [(ax, ⟨ox, lx, sx, tx⟩)] := by rw [List.take_add_one, hpk]; rfl
          have hmk : markL W (SW.take (k + 1)) = markStep W (markL W (SW.take k)) (ax, ⟨ox, lx, sx, tx⟩) := by rw [htk, markL_snoc]
          generalize hacc : markL W (SW.take k) = acc at *
          have HPK := Lib.hid hpk; have HTK := Lib.hid htk; have HMK := Lib.hid hmk; have HACC := Lib.hid hacc
          have HM1' := Lib.hid M1'
          have HM2' := Lib.hid M2'
          clear hpk htk hmk hacc hgd M1' M2'
          rcases Bool.eq_false_or_eq_true (W ax) with hwa | hwa
          · by_cases hac : acc.length < 1000
            · obtain ⟨wm, hrun, M2u, hgrow⟩ := HM2'.out.update (by omega) hax
              have HM2u := Lib.hid M2u; have HGR := Lib.hid hgrow; clear M2u hgrow
              go_wp2
              have hx2 : Ext w1 wm := ext_grown (E2.alloc _) HGR.out (fun j hj => by injection hj with hj; omega)
              have hsz2 : w1.heap.size + 2 ≤ wm.heap.size := by have := HGR.out.size; simp at this; omega
              refine ⟨⟨k + 1, by omega, by go_num, hx2, hsz2, HM1'.out.grown HGR.out (by simp), ?_⟩, by simp [intOf]; omega⟩
              have hM := HM2u.out
              rw [HMK.out, markStep, if_pos ⟨hwa, hac⟩, ← (markB_step acc ax).2, ← (markB_step acc ax).1]
              exact hM
            · go_wp2
              have hM := HM2'.out
              have hE3 : Ext w1 _ := E2.alloc (.cells #[.string ⟨#[]⟩, .bool false, .string ox, .slice Ax lx.length cx, .int .i64 ax, .int .i64 sx, .int .i64 tx] 50)
              refine ⟨⟨k + 1, by omega, by go_num, hE3, by simp; omega, HM1'.out, ?_⟩, by simp [intOf]; omega⟩
              rw [HMK.out, markStep, if_neg (fun h => hac h.2)]
              obtain ⟨D, h1, h2⟩ := hM
              exact ⟨D, h1.mono (by omega), h2⟩
          · go_wp2
            have hM := HM2'.out
            have hE3 : Ext w1 _ := E2.alloc (.cells #[.string ⟨#[]⟩, .bool false, .string ox, .slice Ax lx.length cx, .int .i64 ax, .int .i64 sx, .int .i64 tx] 50)
            refine ⟨⟨k + 1, by omega, by go_num, hE3, by simp; omega, HM1'.out, ?_⟩, by simp [intOf]; omega⟩
            rw [HMK.out, markStep, if_neg (fun h => by rw [hwa] at h; cases h.1)]
            obtain ⟨D, h1, h2⟩ := hM
            exact ⟨D, h1.mono (by omega), h2⟩
        · obtain rfl : k = L.length := by omega
          have HM1 := Lib.hid M1; have HM2 := Lib.hid M2; clear M1 M2
          have hMT : markL W (SW.take L.length) = markL W SW := by rw [HLN.out, List.take_length]
          rw [hMT] at HM2
          generalize hM : markL W SW = acc at *
          have HMK := Lib.hid hM; clear hM hMT
          clear hlt hk
          go_wp2_with (first
            | (go_at_call 18; refine (operand_any _ _ _).mono ?_; rw [show operandS ⟨#[110]⟩ p0 = numA false p0 from rfl]; rintro e w4 ⟨rfl, hx4⟩)
            | (go_at_call 17; refine (stmt_any _ _ _ _ _).mono ?_; rintro e w5 ⟨rfl, hx5⟩)
            | (at_builtin; refine wpList_append_own_at _ rfl _ _ _ rfl (w4.heap.size + 1) 31 i1 _ 4 64 Tryz.underlying24 hi0 hz0 hz1 hz2 rfl (by omega) (.slice none 0 0) 0 [] (by rfl) (World.ownsRow_nil _ _ _ _) ⟨w5.heap.size, 0, none⟩ 1 1 [.string ⟨#[]⟩, .bool false, .string ⟨#[79, 82, 71]⟩, .slice (some ⟨w4.heap.size, 0, none⟩) 1 1] (by rfl) (by rfl) (World.news_of_block (cs := #[.string ⟨#[]⟩, .bool false, .string ⟨#[79, 82, 71]⟩, .slice (some ⟨w4.heap.size, 0, none⟩) 1 1]) (t := 31) (fr := (0, 0)) (heap_alloc_new _ _)) (by simp [Value.oneCell']) (by unfold maxLen; omega) (by omega) (by have := hx5.size; simp at this ⊢; omega) ?_; intro v6 w6 hown6 hgrow6 _ _))
          have E6 : Ext w4 w6 := ext_grown ((((Ext.refl w4).alloc _).trans hx5).alloc _) hgrow6 (by simp [Value.ownBlock])
          have E16 : Ext w1 w6 := (E2.trans hx4).trans E6
          have A6 : Args w6 w.heap.size (.slice (some ⟨w4.heap.size, 0, none⟩) 1 1) [numA false p0] := by
            have h := (Args.one w4 w4.heap.size _ rfl (Nat.le_refl _) (numA false p0) #[.string (numA false p0).word, .string ⟨#[]⟩, .bool false, .bool (numA false p0).mem, .string (numA false p0).op, .int .u16 (numA false p0).n, .string (numA false p0).name, .slice none 0 0] rfl).ext (ext_grown (hx5.alloc _) hgrow6 (by simp [Value.ownBlock]))
            exact h.mono (by have := E1.size; have := E2.size; have := hx4.size; omega)
          have HST := Lib.hid (show ∀ x ∈ L, ∀ j, x.v.ownBlock = some j → w.heap.size ≤ j ∧ j < w1.heap.size from fun x hx j hj => (HP1.out.args x hx).lt j hj)
          have hs4 : w1.heap.size + 2 ≤ w4.heap.size := by have := hx4.size; omega
          have hs6 : w4.heap.size + 1 ≤ w6.heap.size := by have := hx5.size; have := hgrow6.size; simp at *; omega
          have M6 := HM2.out.ext (hx4.trans E6)
          have R6 := (HP1.out.ext E16).row
          have EW6 : Ext w w6 := E1.trans E16
          have ST6 : StSt w w1 w4 L g c1 acc p0 0 v6 w6 := ⟨EW6, hs6, R6, M6, hown6, A6, fun i x hx => by rw [if_neg (by omega)]; exact (HP1.out.ext E16).args x (List.mem_of_getElem? hx)⟩
          clear hx5 hgrow6 HM1 HM2 hsz E2 hx4 E16 M6 R6 EW6 hown6 A6 hs6 E6
          have HST6 := Lib.hid ST6; clear ST6
          go_loopw [6, 82] (fun vo i wr => ∃ k, k ≤ L.length ∧ i = .int .i64 (k : Nat) ∧ StSt w w1 w4 L g c1 acc p0 k vo wr) (fun _ i _ => L.length - (intOf i).toNat)
          case atStart => exact ⟨0, by omega, rfl, HST6.out⟩
          case round =>
            clear HST6
            obtain ⟨k, hk, rfl, S3⟩ := hrel
            obtain ⟨Ao, co, rfl⟩ := own_slice S3.O
            have HVO := Lib.hid (World.ownsRow.lt S3.O)
            have HST3 := Lib.hid S3; clear S3
            have hsz := HST3.out.sz
            by_cases hlt : k < L.length
            · obtain ⟨x, hx⟩ : ∃ x, L[k]? = some x := ⟨_, List.getElem?_eq_getElem hlt⟩
              have hgr : g < wr.heap.size := by omega
              obtain ⟨x0, x1, x2, x3, x4, x5, x6⟩ := piece_cells HST3.out.R hx
              have HX := Lib.hid hx; clear hx
              obtain ⟨vx, ax, ⟨ox, lx, sx, tx⟩⟩ := x
              simp only at x0 x1 x2 x3 x4 x5 x6
              have hA := HP1.out.args _ (List.mem_of_getElem? HX.out)
              have hAk := HST3.out.AA k _ HX.out
              rw [if_neg (Nat.lt_irrefl k)] at hAk
              simp only at hA hAk
              obtain ⟨Ax, cx, hv⟩ := hA.slice
              clear hA
              subst hv
              have hpk : SW[k]? = some (ax, ⟨ox, lx, sx, tx⟩) := by rw [← HL.out, List.getElem?_map, HX.out]; rfl
              have hgd := HG.out _ (List.mem_of_getElem? hpk)
              have hax : i64ok ax := ⟨by have := hgd.a0; simp at this; omega, by have := hgd.a1; simp at this; omega⟩
              have htx : i64ok tx := ⟨by have := hgd.t0; simp at this; omega, by have := hgd.t1; simp at this; omega⟩
              have hmg : ∀ y, markB acc y = true → 0 ≤ y ∧ y ≤ 65535 := fun y hy => by
                rw [← HMK.out] at hy
                exact marked_ge HG.out hy
              have hlx : markB acc tx = true → 0 < lx.length := fun h => by have := hgd.n0; simp at this; exact this (hmg tx h).1
              have HMG := Lib.hid hmg
              have hrow : ∀ b, (Value.slice Ao (k + 1) co).ownBlock = some b → ¬ (Value.slice Ax lx.length cx).ownBlock = some b := fun b hb e => by
                have h1 := (HVO.out b hb).1
                have h2 := (HST.out _ (List.mem_of_getElem? HX.out) b e).2
                omega
              have hrow2 : ¬ (Value.slice Ax lx.length cx).ownBlock = some (w1.heap.size + 1) := fun e => by
                have h2 := (HST.out _ (List.mem_of_getElem? HX.out) _ e).2
                omega
              have HHH := Lib.hid (And.intro hpk (And.intro hgd (And.intro trivial (And.intro hAk trivial))))
              clear hpk hgd hAk
              have M1' := ((HST3.out.M.ext ((Ext.refl _).alloc _)) : Marks (wr.alloc (.cells #[.string ⟨#[]⟩, .bool false, .string ox, .slice Ax lx.length cx, .int .i64 ax, .int .i64 sx, .int .i64 tx] 50)) _ _ _ _)
              have hlook := M1'.look htx
              have HM1' := Lib.hid M1'; clear M1'
              rcases Bool.eq_false_or_eq_true (markB acc tx) with mt | mt
              · have hlx0 := hlx mt
                obtain ⟨gA, rfl, hgA0, hgA1⟩ : ∃ gA, Ax = some ⟨gA, 0, none⟩ ∧ w.heap.size ≤ gA ∧ gA < w1.heap.size := by
                  rcases HHH.out.2.2.2.1.2 with ⟨hv, _⟩ | ⟨gA, cap, cur, hv, hg, _⟩
                  · injection hv with _ h _; omega
                  · injection hv with h _ _
                    exact ⟨gA, h, HST.out _ (List.mem_of_getElem? HX.out) gA (by rw [h]; rfl)⟩
                have hlmt := hmg tx mt
                clear hmg hlx
                have hgA2 : gA < wr.heap.size := by omega
                obtain ⟨ca, fa, curA, hcur, hcsz, hlast⟩ := Args.last (HHH.out.2.2.2.1) rfl hlx0 (nameA (labelS tx))
                have HLAST := Lib.hid hlast; have HCUR := Lib.hid hcur
                clear hlast hcur
                generalize hln : lx.length = ln at *
                obtain ⟨n1, rfl⟩ : ∃ n1, ln = n1 + 1 := ⟨ln - 1, by omega⟩
                have HLN1 := Lib.hid hln; clear hln
                simp only [Nat.add_sub_cancel] at ca
                have HTH := Lib.hid (show ∀ W, Ext wr W → (∃ u, W.cell? ⟨gA, n1 * 8, none⟩ = some u) ∧ (∃ u, W.cell? ⟨gA, n1 * 8 + 1, none⟩ = some u) ∧ (∃ u, W.cell? ⟨gA, n1 * 8 + 2, none⟩ = some u) ∧ (∃ u, W.cell? ⟨gA, n1 * 8 + 3, none⟩ = some u) ∧ (∃ u, W.cell? ⟨gA, n1 * 8 + 4, none⟩ = some u) ∧ (∃ u, W.cell? ⟨gA, n1 * 8 + 5, none⟩ = some u) ∧ (∃ u, W.cell? ⟨gA, n1 * 8 + 6, none⟩ = some u) ∧ (∃ u, W.cell? ⟨gA, n1 * 8 + 7, none⟩ = some u) ∧ (∀ j, W.frozen? ⟨gA, j, none⟩ = false) from fun W hx => by
                  have key : ∀ j, j < 8 → ∃ u, W.cell? ⟨gA, n1 * 8 + j, none⟩ = some u := fun j hj => by
                    obtain ⟨u, hu⟩ := ca j hj
                    exact ⟨u, hx.cell hu⟩
                  exact ⟨key 0 (by omega), key 1 (by omega), key 2 (by omega), key 3 (by omega), key 4 (by omega), key 5 (by omega), key 6 (by omega), key 7 (by omega), fun j => (hx.rules.2 gA _ hgA2).trans (fa _)⟩)
                clear ca fa
                have hwi : IntKind.i64.wrap (((n1 + 1 : Nat) : Int) - 1) = (n1 : Int) := by
                  have hle : n1 + 1 ≤ 1000 := by have := HHH.out.2.1.n1; simp only at this; rw [HLN1.out] at this; exact this
                  rw [IntKind.wrap_i64]; omega
                have hle : n1 + 1 ≤ 1000 := by have := HHH.out.2.1.n1; simp only at this; rw [HLN1.out] at this; exact this
                have hw2 : IntKind.i64.wrap (n1 : Int) = (n1 : Int) := by rw [IntKind.wrap_i64]; omega
                have hb0 : (0 : Int) ≤ (n1 : Int) := by omega
                have hb1 : (n1 : Int) < (n1 : Int) + 1 := by omega
                go_wp2_with fail
                go_region_held3 (fun W => W.cell? ⟨wr.heap.size, 3, none⟩ = some (.slice (some ⟨gA, 0, none⟩) (n1 + 1) cx) ∧ W.cell? ⟨wr.heap.size, 6, none⟩ = some (.int .i64 tx)) (first | (with_reducible exact ⟨s3, s6⟩) | (with_reducible exact ⟨hxa.cell (by simp), hxa.cell (by simp)⟩) | (with_reducible exact ⟨by simp, by simp⟩))
                  (first
                   | (go_at_call 19; refine (label_any tx hlmt.1 hlmt.2 _).mono ?_; rintro e w7 ⟨rfl, hxa⟩; have hx7 : Ext wr w7 := (((Ext.refl wr).alloc _).drew).trans hxa; obtain ⟨⟨u0, d0⟩, ⟨u1, d1⟩, ⟨u2, d2⟩, ⟨u3, d3⟩, ⟨u4, d4⟩, ⟨u5, d5⟩, ⟨u6, d6⟩, ⟨u7, d7⟩, fd⟩ := HTH.out w7 hx7; obtain ⟨e1, e2, e3, e4, e5, e6, e7⟩ := put8 w7 gA (n1 * 8) d0 d1 d2 d3 d4 d5 d6 d7 (.string ⟨#[]⟩) (.string ⟨#[]⟩) (.bool false) (.bool false) (.string ⟨#[110]⟩) (.int .u16 0) (.string (labelS tx)) (.slice none 0 0); clear d1 d2 d3 d4 d5 d6 d7; have s30 : w7.cell? ⟨wr.heap.size, 3, none⟩ = some (.slice (some ⟨gA, 0, none⟩) (n1 + 1) cx) := hxa.cell (by simp); have s60 : w7.cell? ⟨wr.heap.size, 6, none⟩ = some (.int .i64 tx) := hxa.cell (by simp); have s3 := (put8_other w7 gA (n1 * 8) ⟨wr.heap.size, 3, none⟩ (Nat.ne_of_gt hgA2) (.string ⟨#[]⟩) (.string ⟨#[]⟩) (.bool false) (.bool false) (.string ⟨#[110]⟩) (.int .u16 0) (.string (labelS tx)) (.slice none 0 0)).trans s30; have s6 := (put8_other w7 gA (n1 * 8) ⟨wr.heap.size, 6, none⟩ (Nat.ne_of_gt hgA2) (.string ⟨#[]⟩) (.string ⟨#[]⟩) (.bool false) (.bool false) (.string ⟨#[110]⟩) (.int .u16 0) (.string (labelS tx)) (.slice none 0 0)).trans s60))
                obtain ⟨w8, hW8, hA8, hg8, hb8⟩ := Args.last_done HHH.out.2.2.2.1 HLN1.out (nameA (labelS tx)) hx7
                have hB8 : Blk w8 wr.heap.size #[.string ⟨#[]⟩, .bool false, .string ox, .slice (some ⟨gA, 0, none⟩) (n1 + 1) cx, .int .i64 ax, .int .i64 sx, .int .i64 tx] := hb8 _ _ (Nat.ne_of_gt hgA2) ((Blk.new wr _ 50).drew.ext hxa)
                simp only [nameA] at hW8
                rw [← hW8]
                clear hW8 hb8 d0 e1 e2 e3 e4 e5 e6 e7 s30 s60 s3 s6 fd hxa hx7
                have T8 : Tr (fun b => (Value.slice (some ⟨gA, 0, none⟩) (n1 + 1) cx).ownBlock = some b) wr w8 := Tr.of_grown hg8 (fun b hb => hb)
                have M8 := T8.marks HST3.out.M hrow2
                have hA8 : Args w8 w.heap.size (.slice (some ⟨gA, 0, none⟩) (n1 + 1) cx) (newArgs (markB acc) (ax, ⟨ox, lx, sx, tx⟩)) := by unfold newArgs; rw [if_pos mt]; exact hA8
                rcases Bool.eq_false_or_eq_true (markB acc ax) with ma | ma
                · have hlma := HMG.out ax ma
                  have O8 := T8.own HST3.out.O hrow
                  have hla := M8.look hax
                  have k8 := hB8.cell
                  have f8 := hB8.frozen
                  have lt8 := hB8.lt
                  have HM8 := Lib.hid M8; clear M8
                  have HO8 := Lib.hid O8; clear O8
                  go_wp2_with (first
                    | (go_at_call 19; refine (label_any ax hlma.1 hlma.2 _).mono ?_; rintro e w9 ⟨rfl, hx9⟩; have hB9 := hB8.ext hx9; have k9 := hB9.cell; have f9 := hB9.frozen; have lt9 := hB9.lt; have hB9b := (hB9.put 0 (.string (labelS ax))).put 1 (.bool true); have k9b := hB9b.cell; have T9 : Tr (fun b => b = wr.heap.size ∨ (Value.slice Ao (k + 1) co).ownBlock = some b) w8 ((w9.setCell ⟨wr.heap.size, 0, none⟩ (.string (labelS ax))).setCell ⟨wr.heap.size, 1, none⟩ (.bool true)) := ((Tr.of_ext (B := fun b => b = wr.heap.size ∨ (Value.slice Ao (k + 1) co).ownBlock = some b) hx9).set (B := fun b => b = wr.heap.size ∨ (Value.slice Ao (k + 1) co).ownBlock = some b) (a := ⟨wr.heap.size, 0, none⟩) (Or.inl rfl) _).set (B := fun b => b = wr.heap.size ∨ (Value.slice Ao (k + 1) co).ownBlock = some b) (a := ⟨wr.heap.size, 1, none⟩) (Or.inl rfl) _; have T9o : Tr (fun b => b = wr.heap.size) w8 ((w9.setCell ⟨wr.heap.size, 0, none⟩ (.string (labelS ax))).setCell ⟨wr.heap.size, 1, none⟩ (.bool true)) := ((Tr.of_ext (B := fun b => b = wr.heap.size) hx9).set (B := fun b => b = wr.heap.size) (a := ⟨wr.heap.size, 0, none⟩) rfl _).set (B := fun b => b = wr.heap.size) (a := ⟨wr.heap.size, 1, none⟩) rfl _; have HO9 := Lib.hid (T9o.own HO8.out (fun b hb e => by have := (HVO.out b hb).2; omega)); have HT9 := Lib.hid T9; clear T9 T9o; have hs9 : w4.heap.size + 1 ≤ w9.heap.size := by omega)
                    | (at_builtin; refine wpList_append_own_at _ rfl _ _ _ rfl (w4.heap.size + 1) 31 i1 _ 4 64 Tryz.underlying24 hi0 hz0 hz1 hz2 rfl (by omega) (.slice Ao (k + 1) co) (k + 1) _ (by rfl) (HO9.out.alloc _) ⟨w9.heap.size, 0, none⟩ 1 1 [.string (labelS ax), .bool true, .string ox, .slice (some ⟨gA, 0, none⟩) (n1 + 1) cx] (by rfl) (by rfl) (World.news_of_block (cs := #[.string (labelS ax), .bool true, .string ox, .slice (some ⟨gA, 0, none⟩) (n1 + 1) cx]) (t := 31) (fr := (0, 0)) (by have h := heap_alloc_new ((w9.setCell ⟨wr.heap.size, 0, none⟩ (.string (labelS ax))).setCell ⟨wr.heap.size, 1, none⟩ (.bool true)) (.cells #[.string (labelS ax), .bool true, .string ox, .slice (some ⟨gA, 0, none⟩) (n1 + 1) cx] 31); simpa using h)) (by simp [Value.oneCell']) (by unfold maxLen; omega) (by omega) (by simp; omega) ?_; intro v10 w10 hown10 hgrow10 _ hat10))
                  have T10 := (HT9.out.alloc _).trans (Tr.of_grown (B := fun b => b = wr.heap.size ∨ (Value.slice Ao (k + 1) co).ownBlock = some b) hgrow10 (fun b hb => .inr hb))
                  have hfin := HST3.out.round HX.out HP1.out E1 hs4 T8 hA8 T10 (by simpa [SL.cells, stS, ma, HLN1.out] using hown10)
                  exact ⟨⟨k + 1, by omega, by go_num, hfin⟩, by simp [intOf]; omega⟩
                · have O8 := T8.own HST3.out.O hrow
                  have hla := M8.look hax
                  have k8 := hB8.cell
                  have f8 := hB8.frozen
                  have lt8 := hB8.lt
                  have HM8 := Lib.hid M8; clear M8
                  have HO8 := Lib.hid O8; clear O8
                  go_wp2_with (at_builtin; refine wpList_append_own_at _ rfl _ _ _ rfl (w4.heap.size + 1) 31 i1 _ 4 64 Tryz.underlying24 hi0 hz0 hz1 hz2 rfl (by omega) (.slice Ao (k + 1) co) (k + 1) _ (by rfl) (HO8.out.alloc _) ⟨w8.heap.size, 0, none⟩ 1 1 [.string ⟨#[]⟩, .bool false, .string ox, .slice (some ⟨gA, 0, none⟩) (n1 + 1) cx] (by rfl) (by rfl) (World.news_of_block (cs := #[.string ⟨#[]⟩, .bool false, .string ox, .slice (some ⟨gA, 0, none⟩) (n1 + 1) cx]) (t := 31) (fr := (0, 0)) (by have h := heap_alloc_new w8 (.cells #[.string ⟨#[]⟩, .bool false, .string ox, .slice (some ⟨gA, 0, none⟩) (n1 + 1) cx] 31); simpa using h)) (by simp [Value.oneCell']) (by unfold maxLen; omega) (by omega) (by simp; omega) ?_; intro v10 w10 hown10 hgrow10 _ hat10)
                  have T10 := (Tr.of_ext (B := fun b => b = wr.heap.size ∨ (Value.slice Ao (k + 1) co).ownBlock = some b) ((Ext.refl w8).alloc (.cells #[.string ⟨#[]⟩, .bool false, .string ox, .slice (some ⟨gA, 0, none⟩) (n1 + 1) cx] 31))).trans (Tr.of_grown hgrow10 (fun b hb => .inr hb))
                  have hfin := HST3.out.round HX.out HP1.out E1 hs4 T8 hA8 T10 (by simpa [SL.cells, stS, ma, HLN1.out] using hown10)
                  exact ⟨⟨k + 1, by omega, by go_num, hfin⟩, by simp [intOf]; omega⟩
              · have T8 : Tr (fun b => (Value.slice Ax lx.length cx).ownBlock = some b) wr (wr.alloc (.cells #[.string ⟨#[]⟩, .bool false, .string ox, .slice Ax lx.length cx, .int .i64 ax, .int .i64 sx, .int .i64 tx] 50)) := Tr.of_ext ((Ext.refl _).alloc _)
                have hB8 := Blk.new wr #[.string ⟨#[]⟩, .bool false, .string ox, .slice Ax lx.length cx, .int .i64 ax, .int .i64 sx, .int .i64 tx] 50
                have hA8 : Args (wr.alloc (.cells #[.string ⟨#[]⟩, .bool false, .string ox, .slice Ax lx.length cx, .int .i64 ax, .int .i64 sx, .int .i64 tx] 50)) w.heap.size (.slice Ax lx.length cx) (newArgs (markB acc) (ax, ⟨ox, lx, sx, tx⟩)) := by unfold newArgs; rw [if_neg (by rw [mt]; simp)]; exact HHH.out.2.2.2.1.ext ((Ext.refl _).alloc _)
                have M8 := HM1'.out
                clear hmg hlx
                rcases Bool.eq_false_or_eq_true (markB acc ax) with ma | ma
                · have hlma := HMG.out ax ma
                  have O8 := T8.own HST3.out.O hrow
                  have hla := M8.look hax
                  have k8 := hB8.cell
                  have f8 := hB8.frozen
                  have lt8 := hB8.lt
                  have HM8 := Lib.hid M8; clear M8
                  have HO8 := Lib.hid O8; clear O8
                  go_wp2_with (first
                    | (go_at_call 19; refine (label_any ax hlma.1 hlma.2 _).mono ?_; rintro e w9 ⟨rfl, hx9⟩; have hB9 := hB8.ext hx9; have k9 := hB9.cell; have f9 := hB9.frozen; have lt9 := hB9.lt; have hB9b := (hB9.put 0 (.string (labelS ax))).put 1 (.bool true); have k9b := hB9b.cell; have T9 : Tr (fun b => b = wr.heap.size ∨ (Value.slice Ao (k + 1) co).ownBlock = some b) (wr.alloc (.cells #[.string ⟨#[]⟩, .bool false, .string ox, .slice Ax lx.length cx, .int .i64 ax, .int .i64 sx, .int .i64 tx] 50)) ((w9.setCell ⟨wr.heap.size, 0, none⟩ (.string (labelS ax))).setCell ⟨wr.heap.size, 1, none⟩ (.bool true)) := ((Tr.of_ext (B := fun b => b = wr.heap.size ∨ (Value.slice Ao (k + 1) co).ownBlock = some b) hx9).set (B := fun b => b = wr.heap.size ∨ (Value.slice Ao (k + 1) co).ownBlock = some b) (a := ⟨wr.heap.size, 0, none⟩) (Or.inl rfl) _).set (B := fun b => b = wr.heap.size ∨ (Value.slice Ao (k + 1) co).ownBlock = some b) (a := ⟨wr.heap.size, 1, none⟩) (Or.inl rfl) _; have T9o : Tr (fun b => b = wr.heap.size) (wr.alloc (.cells #[.string ⟨#[]⟩, .bool false, .string ox, .slice Ax lx.length cx, .int .i64 ax, .int .i64 sx, .int .i64 tx] 50)) ((w9.setCell ⟨wr.heap.size, 0, none⟩ (.string (labelS ax))).setCell ⟨wr.heap.size, 1, none⟩ (.bool true)) := ((Tr.of_ext (B := fun b => b = wr.heap.size) hx9).set (B := fun b => b = wr.heap.size) (a := ⟨wr.heap.size, 0, none⟩) rfl _).set (B := fun b => b = wr.heap.size) (a := ⟨wr.heap.size, 1, none⟩) rfl _; have HO9 := Lib.hid (T9o.own HO8.out (fun b hb e => by have := (HVO.out b hb).2; omega)); have HT9 := Lib.hid T9; clear T9 T9o; have hs9 : w4.heap.size + 1 ≤ w9.heap.size := by omega)
                    | (at_builtin; refine wpList_append_own_at _ rfl _ _ _ rfl (w4.heap.size + 1) 31 i1 _ 4 64 Tryz.underlying24 hi0 hz0 hz1 hz2 rfl (by omega) (.slice Ao (k + 1) co) (k + 1) _ (by rfl) (HO9.out.alloc _) ⟨w9.heap.size, 0, none⟩ 1 1 [.string (labelS ax), .bool true, .string ox, .slice Ax lx.length cx] (by rfl) (by rfl) (World.news_of_block (cs := #[.string (labelS ax), .bool true, .string ox, .slice Ax lx.length cx]) (t := 31) (fr := (0, 0)) (by have h := heap_alloc_new ((w9.setCell ⟨wr.heap.size, 0, none⟩ (.string (labelS ax))).setCell ⟨wr.heap.size, 1, none⟩ (.bool true)) (.cells #[.string (labelS ax), .bool true, .string ox, .slice Ax lx.length cx] 31); simpa using h)) (by simp [Value.oneCell']) (by unfold maxLen; omega) (by omega) (by simp; omega) ?_; intro v10 w10 hown10 hgrow10 _ hat10))
                  have T10 := (HT9.out.alloc _).trans (Tr.of_grown (B := fun b => b = wr.heap.size ∨ (Value.slice Ao (k + 1) co).ownBlock = some b) hgrow10 (fun b hb => .inr hb))
                  have hfin := HST3.out.round HX.out HP1.out E1 hs4 T8 hA8 T10 (by simpa [SL.cells, stS, ma, ma] using hown10)
                  exact ⟨⟨k + 1, by omega, by go_num, hfin⟩, by simp [intOf]; omega⟩
                · have O8 := T8.own HST3.out.O hrow
                  have hla := M8.look hax
                  have k8 := hB8.cell
                  have f8 := hB8.frozen
                  have lt8 := hB8.lt
                  have HM8 := Lib.hid M8; clear M8
                  have HO8 := Lib.hid O8; clear O8
                  go_wp2_with (at_builtin; refine wpList_append_own_at _ rfl _ _ _ rfl (w4.heap.size + 1) 31 i1 _ 4 64 Tryz.underlying24 hi0 hz0 hz1 hz2 rfl (by omega) (.slice Ao (k + 1) co) (k + 1) _ (by rfl) (HO8.out.alloc _) ⟨wr.heap.size + 1, 0, none⟩ 1 1 [.string ⟨#[]⟩, .bool false, .string ox, .slice Ax lx.length cx] (by rfl) (by rfl) (World.news_of_block (cs := #[.string ⟨#[]⟩, .bool false, .string ox, .slice Ax lx.length cx]) (t := 31) (fr := (0, 0)) (by have h := heap_alloc_new (wr.alloc (.cells #[.string ⟨#[]⟩, .bool false, .string ox, .slice Ax lx.length cx, .int .i64 ax, .int .i64 sx, .int .i64 tx] 50)) (.cells #[.string ⟨#[]⟩, .bool false, .string ox, .slice Ax lx.length cx] 31); simpa using h)) (by simp [Value.oneCell']) (by unfold maxLen; omega) (by omega) (by simp; omega) ?_; intro v10 w10 hown10 hgrow10 _ hat10)
                  have T10 := (Tr.of_ext (B := fun b => b = wr.heap.size ∨ (Value.slice Ao (k + 1) co).ownBlock = some b) ((Ext.refl (wr.alloc (.cells #[.string ⟨#[]⟩, .bool false, .string ox, .slice Ax lx.length cx, .int .i64 ax, .int .i64 sx, .int .i64 tx] 50))).alloc (.cells #[.string ⟨#[]⟩, .bool false, .string ox, .slice Ax lx.length cx] 31))).trans (Tr.of_grown hgrow10 (fun b hb => .inr hb))
                  have hfin := HST3.out.round HX.out HP1.out E1 hs4 T8 hA8 T10 (by simpa [SL.cells, stS, ma, ma] using hown10)
                  exact ⟨⟨k + 1, by omega, by go_num, hfin⟩, by simp [intOf]; omega⟩
            · obtain rfl : k = L.length := by omega
              go_wp2
              go_ret2
              have hmm : L.map (fun x : PL => stS (markB acc) (x.at_, x.p)) = SW.map (stS (markB acc)) := by rw [← HL.out, List.map_map]; rfl
              refine ⟨_, stPre L (markB acc) (.slice (some ⟨w4.heap.size, 0, none⟩) 1 1) p0 L.length, rfl, ?_, ⟨?_, ?_⟩, HST3.out.E⟩
              · simp only [stPre, List.map_cons, List.map_map, List.take_length, allS]
                rw [HW.out, HMK.out, ← hmm]; rfl
              · have h := own_mono HST3.out.O (show w.heap.size ≤ w4.heap.size + 1 by have := E1.size; omega)
                simpa [stPre] using h
              · intro y hy
                rcases List.mem_cons.1 hy with rfl | hy
                · exact HST3.out.A0
                · rw [List.take_length] at hy
                  obtain ⟨z, hz, rfl⟩ := List.mem_map.1 hy
                  obtain ⟨i, hi, hz2⟩ := List.getElem_of_mem hz
                  have h := HST3.out.AA i z (by rw [← hz2]; exact List.getElem?_eq_getElem hi)
                  rw [if_pos hi] at h
                  exact h
end Go.Proofs.YtnklmehphmidhaaGreatDoor
