/- line.Show, on statements that are right: the walk. -/
import Derived.Test.YtnklmehphmidhaaGreatDoorRge
namespace Go.Proofs.YtnklmehphmidhaaGreatDoor
open Go.RowKit
set_option maxRecDepth 100000
set_option maxHeartbeats 2000000
set_option linter.unusedSimpArgs false
set_option linter.unusedVariables false

/-- What 's.Args' loop holds behind k rounds. -/
structure ShSt (w : World) (d : Int) (l : List AR) (g k : Nat) (va : Value) (wr : World) : Prop where
  E : Ext w wr
  B : Blk wr g #[.slice none 0 0]
  O : OwnS wr (g + 1) va ((l.take k).map (argT d))

theorem show26_any (d : Int) (hd : 0 ≤ d ∧ d ≤ 2) (s : SR) (v : Value) (hF : Fine d s) (hn : ∀ a ∈ s.args, 0 ≤ a.n ∧ a.n ≤ 65535) (w : World) (hT : Tab w) (hr : RdA w v s.args) :
    Calls Tryz.prog 26 #[.int .i64 d, .agg #[.string s.label, .bool s.colon, .string s.op, v]] w fun e w' => e = .returned (.tuple #[.string (showT d s), .int .i64 0]) ∧ Ext w w' := by
  obtain ⟨i0, hi0, hz0, hz1, hz2⟩ := info_parts Tryz.info9
  have HS := Lib.hid (showT_size hF)
  have HTX := Lib.hid (show showT d s = joinS (wordsT d s) ⟨#[32]⟩ from rfl)
  have HWL := Lib.hid (words_eq d s hF)
  obtain ⟨lab, col, op, l⟩ := s
  simp only at hn hr HWL ⊢
  have HF := Lib.hid hF; clear hF
  obtain ⟨A, c, rfl, h⟩ := id hr
  have HR := Lib.hid hr; clear hr
  have HN := Lib.hid hn; clear hn
  have HT := Lib.hid hT; clear hT
  have HH := Lib.hid h; clear h
  have hL2 : l.length ≤ 2 := HF.out.len
  generalize hL : l.length = L at *
  have HL := Lib.hid hL; clear hL
  have hlab : lab.size ≤ 16 := by
    rcases HF.out.lab with ⟨h, _⟩ | ⟨h, _⟩
    · simp only at h; subst h; decide
    · exact nameB_size h.nm
  have hmk : ∀ (fn : Fn) (first cap : Array Value) (w : World), (Instr.makeFunc fn first cap).run Tryz.prog w = .ok (.func fn first cap) w := fun _ _ _ _ => rfl
  generalize hout : showT d ⟨lab, col, op, l⟩ = out at *
  clear hout
  have hsz := HS.out
  cases col
  all_goals
    go_enter Tryz.func26, Tryz.ntmps26
    go_wp2_with (go_at_call 14; refine (right14_any d hd ⟨lab, _, op, l⟩ _ HF.out _ (HT.out.ext ((Ext.refl _).alloc _)) (HR.out.ext ((Ext.refl _).alloc _))).mono ?_; rintro e w1 ⟨rfl, hx1⟩; have B0 := (Blk.new w _ 31).ext hx1; have k0 := B0.cell; have lt0 := B0.lt)
    have hE1 : Ext w w1 := ((Ext.refl _).alloc _).trans hx1
    have ltw : w.heap.size < w1.heap.size := lt0
    have HST := Lib.hid (show ShSt w d l w1.heap.size 0 (.slice none 0 0) (w1.alloc (.cells #[.slice none 0 0] 79)) from ⟨hE1.alloc _, Blk.new _ _ _, OwnS.nil _ _⟩)
    have HB0 := Lib.hid (B0.alloc (.cells #[.slice none 0 0] 79))
    clear B0 k0 hx1 lt0
    go_loopw [8, 30] (fun va i wr => ∃ k, k ≤ L ∧ i = .int .i64 (k : Nat) ∧ Hid (ShSt w d l w1.heap.size k va wr) ∧ Hid (Blk wr w.heap.size #[.string lab, .bool _, .string op, .slice A L c])) (fun _ i _ => L - (intOf i).toNat)
    case atStart => exact ⟨0, by omega, rfl, HST, HB0⟩
    case round =>
      obtain ⟨k, hk, rfl, HK, HBk⟩ := hrel
      by_cases hlt : k < L
      · obtain ⟨b, o, rfl, hb, hcell⟩ := HH.out (by omega)
        obtain ⟨a, ha⟩ : ∃ a, l[k]? = some a := ⟨_, List.getElem?_eq_getElem (by rw [HL.out]; exact hlt)⟩
        have E := HK.out.E
        have k0 := E.cell (hcell k a 0 _ ha rfl)
        have k1 := E.cell (hcell k a 1 _ ha rfl)
        have k2 := E.cell (hcell k a 2 _ ha rfl)
        have k3 := E.cell (hcell k a 3 _ ha rfl)
        have k4 := E.cell (hcell k a 4 _ ha rfl)
        have k5 := E.cell (hcell k a 5 _ ha rfl)
        have k6 := E.cell (hcell k a 6 _ ha rfl)
        have k7 := E.cell (hcell k a 7 _ ha rfl)
        rw [Nat.add_zero] at k0
        have HA := Lib.hid ha
        have HM : Hid (a ∈ l) := Lib.hid (List.mem_of_getElem? ha)
        clear hcell ha
        have hlen : ((l.take k).map (argT d)).length = k := by simp [HL.out, hk]
        have hsl := HK.out.O.slice
        rw [hlen] at hsl
        obtain ⟨Av, cv, rfl⟩ := hsl
        have HLEN := Lib.hid hlen; clear hlen
        have HE := Lib.hid E; clear E
        have HON := Lib.hid (show wr.ownsRow (w1.heap.size + 1) 9 1 (.slice Av k cv) k (((l.take k).map (argT d)).map Value.string) from by have := HK.out.O; unfold OwnS at this; rw [HLEN.out] at this; exact this)
        have hw1r : w1.heap.size < wr.heap.size := HK.out.B.lt
        have HAV : Hid (∀ b, (Value.slice Av k cv).ownBlock = some b → w1.heap.size + 1 ≤ b) := Lib.hid (fun b hb => (HK.out.O.lt b hb).1)
        go_wp2_with (first
          | (go_at_call 47; refine (show47_any d a (HF.out.args a HM.out) (HN.out a HM.out) _).mono ?_; rintro e w5 ⟨rfl, hx5⟩; have hs5 : wr.heap.size < w5.heap.size := (by have := hx5.size; simp at this; omega); have HX5 := Lib.hid (((Ext.refl wr).alloc _).trans hx5); clear hx5)
          | (at_builtin; refine wpList_append_own_at _ rfl _ _ _ rfl (w1.heap.size + 1) 9 i0 _ 1 16 Tryz.underlying79 hi0 hz0 hz1 hz2 rfl (by omega) (.slice Av k cv) k _ (by rfl) (World.ownsRow.alloc ((Tr.of_ext (B := fun _ => False) HX5.out).own HON.out (fun _ _ e => e)) _) ⟨w5.heap.size, 0, none⟩ 1 1 [.string (argT d a)] (by rfl) (by rfl) (World.news_of_block (cs := #[.string (argT d a)]) (t := 9) (fr := (0, 0)) (heap_alloc_new _ _)) (by simp [Value.oneCell']) (by unfold maxLen; omega) (by omega) (by simp; omega) ?_; intro v7 w7 hown7 hgrow _ _; have HG := Lib.hid hgrow; have HO7 := Lib.hid hown7; clear hgrow hown7))
        go_roundw
        case rel =>
          have E7 : Ext w w7 := ext_grown ((HE.out.trans HX5.out).alloc _) HG.out (fun b hb => by have := HAV.out b hb; omega)
          refine ⟨k + 1, by omega, by go_num, Lib.hid ⟨E7, ?_, ?_⟩, Lib.hid ?_⟩
          · exact ((HK.out.B.ext HX5.out).alloc _).grown HG.out (fun e => by have := HAV.out _ e.symm; omega)
          · have ht : (l.take (k + 1)).map (argT d) = (l.take k).map (argT d) ++ [argT d a] := by
              rw [List.take_add_one, HA.out]; simp
            rw [ht]
            unfold OwnS
            rw [List.length_append, HLEN.out]
            simpa using HO7.out
          · exact ((HBk.out.ext HX5.out).alloc _).grown HG.out (fun e => by have := HAV.out _ e.symm; omega)
        case measure => simp [intOf]; omega
      · obtain rfl : k = L := by omega
        have hlen : ((l.take k).map (argT d)) = l.map (argT d) := by rw [List.take_of_length_le (by rw [HL.out]; omega)]
        have hO0 := HK.out.O
        rw [hlen] at hO0
        have HO0 := Lib.hid hO0; clear hO0 hlen
        have HV0 : Hid (∀ b, Value.ownBlock _ = some b → w1.heap.size + 1 ≤ b ∧ b < wr.heap.size) := Lib.hid (fun b hb => HO0.out.lt b hb)
        go_wp2_with fail
        refine (clos46_any _ w1.heap.size _ [] (by simp) _ HK.out.B (OwnS.nil _ _)).mono ?_
        rintro e w5 ⟨rfl, v5, hB5, hO5, hT5, hat5⟩
        have HB5 := Lib.hid hB5; have HO5 := Lib.hid hO5; have HT5 := Lib.hid hT5
        have hBb := hT5.blk HBk.out (by intro e; rcases e with e | e; · omega
                                        · cases e)
        have HBb := Lib.hid hBb; clear hBb
        have hOa := HO0.out.tr hT5 (by intro b hb e; have h1 := (HV0.out b hb).1; rcases e with e | e; · omega
                                       · cases e)
        have HOa := Lib.hid hOa; clear hOa
        have HV5 : Hid (∀ b, v5.ownBlock = some b → wr.heap.size ≤ b) := Lib.hid (by
          intro b hb
          rcases hat5 with h | ⟨j, h, hj⟩
          · rw [h] at hb; cases hb
          · rw [h] at hb; injection hb with hb; omega)
        have kb := HBb.out.cell
        have hs5 := hT5.size
        clear hB5 hO5 hT5 hat5
        go_wp2_with fail
        refine (clos46_any op w1.heap.size v5 _ (by have := addS_len [] lab; simp at this; have := addS_len [] (lab ++ ⟨#[58]⟩); simp at this; omega) _ HB5.out HO5.out).mono ?_
        rintro e w6 ⟨rfl, v6, hB6, hO6, hT6, hat6⟩
        have HB6 := Lib.hid hB6; have HO6 := Lib.hid hO6; have HT6 := Lib.hid hT6
        have hOb := HOa.out.tr hT6 (by
          intro b hb e
          have h1 := HV0.out b hb
          rcases e with e | e
          · omega
          · have := HV5.out b e; omega)
        have HOb := Lib.hid hOb; clear hOb
        have hs6 := hT6.size
        clear hB6 hO6 hT6 hat6 kb
        have HJ : Hid (joinS (l.map (argT d)) ⟨#[44]⟩ = argsT d l) := Lib.hid rfl
        go_wp2_with (go_at_call 48; refine (join_any (l.map (argT d)) _ ⟨#[44]⟩ (by decide) (by simp; rw [HL.out]; omega) (by intro x hx; obtain ⟨a, ha, rfl⟩ := List.mem_map.1 hx; have := argT_size (HF.out.args a ha); omega) _ HOb.out.rd).mono ?_; rw [HJ.out]; rintro e w7 ⟨rfl, hx7⟩)
        have hw6 : w6.heap.size ≤ w7.heap.size := hx7.size
        refine (clos46_any (argsT d l) w1.heap.size v6 _ (by have h1 := addS_len [] lab; have h2 := addS_len [] (lab ++ ⟨#[58]⟩); have h3 := addS_len (addS [] lab) op; have h4 := addS_len (addS [] (lab ++ ⟨#[58]⟩)) op; simp at h1 h2; omega) _ (HB6.out.ext hx7) (HO6.out.ext hx7)).mono ?_
        rintro e w8 ⟨rfl, v8, hB8, hO8, hT8, hat8⟩
        have hW := HWL.out
        simp only [reduceIte, Bool.false_eq_true] at hW
        rw [hW] at hO8
        have hEx : Ext w w8 := by
          have e5 : Ext w w5 := HT5.out.ext HK.out.E (by intro b hb; rcases hb with hb | hb; · omega
                                                         · cases hb)
          have e6 : Ext w w6 := HT6.out.ext e5 (by intro b hb; have := HK.out.E.size; rcases hb with hb | hb; · omega
                                                   · have := HV5.out b hb; omega)
          refine hT8.ext (e6.trans hx7) ?_
          intro b hb
          rcases hb with hb | hb
          · omega
          · have := (HO6.out.lt b hb).1; omega
        have HEx := Lib.hid hEx
        have HO8 := Lib.hid hO8
        have k8 := hB8.cell
        obtain ⟨A8, c8, rfl⟩ := hO8.slice
        have HW8 := Lib.hid hT8
        have HTY := Lib.hid HTX.out.symm
        clear hEx hB8 hO8 hT8 hat8 hW
        go_wp2_with (go_at_call 48; refine (join_any _ _ ⟨#[32]⟩ (by decide) (Nat.le_trans (wordsT_len d _) (by omega)) (fun x hx => Nat.le_trans (wordsT_size HF.out x hx) (by omega)) _ HO8.out.rd).mono ?_; rw [HTY.out]; rintro e w9 ⟨rfl, hx9⟩)
        go_ret2
        exact ⟨rfl, HEx.out.trans hx9⟩
end Go.Proofs.YtnklmehphmidhaaGreatDoor
