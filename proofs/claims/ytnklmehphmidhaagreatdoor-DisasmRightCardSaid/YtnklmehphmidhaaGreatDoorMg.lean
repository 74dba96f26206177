/- disasm: all pieces, labels, sets of places. -/
import Derived.Test.YtnklmehphmidhaaGreatDoorMf
import Derived.Deep.CutBlock
import Derived.Maps.AppendAt
import Derived.Lib.SlBytesConst
import Derived.Maps.OwnSet
namespace Go.Proofs.YtnklmehphmidhaaGreatDoor
section
open Go.RowKit
set_option maxRecDepth 100000
set_option maxHeartbeats 4000000
set_option linter.unusedSimpArgs false
set_option linter.unusedVariables false

theorem Tryz.info50 : (Tryz.prog.info? 50).map (fun i => (i.zero, i.size, i.bytes)) = some (some (.agg #[.string ⟨#[]⟩, .bool false, .string ⟨#[]⟩, .slice none 0 0, .int .i64 0, .int .i64 0, .int .i64 0]), 7, 88) := by kernel_rfl
theorem Tryz.info31 : (Tryz.prog.info? 31).map (fun i => (i.zero, i.size, i.bytes)) = some (some (.agg #[.string ⟨#[]⟩, .bool false, .string ⟨#[]⟩, .slice none 0 0]), 4, 64) := by kernel_rfl

/-- What stands at a place: a name, operands, how long, where it goes. -/
structure Piece where
  op : ByteArray
  args : List AR
  size : Int
  tgt : Int

/-- All pieces. -/
def sweepS (F : Int → List Int → Piece) : Nat → Int → List Int → List (Int × Piece)
  | 0, _, _ => []
  | f + 1, at', b => if b.length = 0 then [] else (at', F at' b) :: sweepS F f (at' + (F at' b).size) (b.drop (F at' b).size.toNat)

/-- Two rows lie in different blocks. -/
def apart (u v : Value) : Prop := ∀ g, u.ownBlock = some g → v.ownBlock ≠ some g

theorem apart.sub {u v : Value} (h : apart u v) {k : Option Nat} (hk : k = v.ownBlock) : u.ownBlock = none ∨ u.ownBlock ≠ k := by
  subst hk
  rcases hu : u.ownBlock with _ | g
  · exact .inl rfl
  · refine .inr fun e => h g hu e.symm

/-- A piece that lies in memory. -/
structure PL where
  v : Value
  at_ : Int
  p : Piece
def PL.cells (x : PL) : List Value := [.string ⟨#[]⟩, .bool false, .string x.p.op, x.v, .int .i64 x.at_, .int .i64 x.p.size, .int .i64 x.p.tgt]
theorem PL.cells_len (l : List PL) : (l.flatMap PL.cells).length = l.length * 7 := by
  induction l with
  | nil => rfl
  | cons a l ih => rw [List.flatMap_cons, List.length_append, ih]; simp [PL.cells]; omega

/-- v owns the pieces L, each with operands of its own. -/
structure Pieces (w : World) (base : Nat) (v : Value) (L : List PL) : Prop where
  row : w.ownsRow base 50 7 v L.length (L.flatMap PL.cells)
  args : ∀ x ∈ L, Args w base x.v x.p.args
  off : ∀ x ∈ L, apart x.v v
  pair : L.Pairwise (fun x y => apart x.v y.v)

theorem Pieces.nil (w : World) (base : Nat) : Pieces w base (.slice none 0 0) [] := ⟨World.ownsRow_nil _ _ _ _, by simp, by simp, .nil⟩
theorem Pieces.slice {w : World} {base : Nat} {v : Value} {L : List PL} (h : Pieces w base v L) : ∃ A c, v = .slice A L.length c := by
  rcases h.row.2 with ⟨rfl, hn⟩ | ⟨g, cap, cur, rfl, _⟩
  · exact ⟨none, 0, by rw [hn]⟩
  · exact ⟨_, cap, rfl⟩
theorem Pieces.ext {w w' : World} {base : Nat} {v : Value} {L : List PL} (h : Pieces w base v L) (hx : Ext w w') : Pieces w' base v L := by
  refine ⟨World.ownsRow.kept h.row (row := none) ⟨hx.os, hx.tape, hx.output, hx.size, fun i hi _ => Below.block hx i hi⟩ ?_, fun x hm => (h.args x hm).ext hx, h.off, h.pair⟩
  cases v.ownBlock <;> simp
theorem Pieces.mono {w : World} {base base' : Nat} {v : Value} {L : List PL} (h : Pieces w base v L) (hb : base' ≤ base) : Pieces w base' v L := by
  refine ⟨?_, fun x hm => (h.args x hm).mono hb, h.off, h.pair⟩
  obtain ⟨h1, h2⟩ := h.row
  refine ⟨h1, ?_⟩
  rcases h2 with h2 | ⟨g, cap, cur, hv, hg, r⟩
  · exact .inl h2
  · exact .inr ⟨g, cap, cur, hv, Nat.le_trans hb hg, r⟩
theorem Args.grown {w w' : World} {base : Nat} {v : Value} {l : List AR} {row : Option Nat} (h : Args w base v l) (hg : w.grownBy w' row) (hne : v.ownBlock = none ∨ v.ownBlock ≠ row) : Args w' base v l := World.ownsRow.kept h hg hne
theorem Args.lt {w : World} {base : Nat} {v : Value} {l : List AR} (h : Args w base v l) : ∀ k, v.ownBlock = some k → base ≤ k ∧ k < w.heap.size := World.ownsRow.lt h
theorem Args.len {w : World} {base : Nat} {v : Value} {l : List AR} (h : Args w base v l) : ∃ A c, v = .slice A l.length c := h.slice

/-- Behind an append: one more piece. -/
theorem Pieces.snoc {w w' : World} {base : Nat} {v v' : Value} {L : List PL} {x : PL} {k : Nat} (h : Pieces w base v L) (hk : L.length = k) (hA : Args w base x.v x.p.args) (hfar : ∀ y ∈ L, apart y.v x.v) (hoff : apart x.v v)
    (hrow : w'.ownsRow base 50 7 v' (k + 1) (L.flatMap PL.cells ++ PL.cells x)) (hg : w.grownBy w' v.ownBlock) (hat : v'.ownBlock = v.ownBlock ∨ v'.ownBlock = some w.heap.size) :
    Pieces w' base v' (L ++ [x]) := by
  subst hk
  have key : ∀ y : PL, Args w base y.v y.p.args → apart y.v v → apart y.v v' := by
    intro y hy ha j hj e
    rcases hat with hat | hat
    · exact ha _ hj (hat ▸ e)
    · rw [hat] at e
      injection e with e
      subst e
      exact absurd (hy.lt _ hj).2 (Nat.lt_irrefl _)
  refine ⟨?_, ?_, ?_, ?_⟩
  · rw [List.length_append, List.flatMap_append]
    simpa using hrow
  · intro y hy
    rcases List.mem_append.1 hy with hy | hy
    · exact (h.args y hy).grown hg ((h.off y hy).sub rfl)
    · obtain rfl : y = x := by simpa using hy
      exact hA.grown hg (hoff.sub rfl)
  · intro y hy
    rcases List.mem_append.1 hy with hy | hy
    · exact key y (h.args y hy) (h.off y hy)
    · obtain rfl : y = x := by simpa using hy
      exact key y hA hoff
  · rw [List.pairwise_append]
    exact ⟨h.pair, by simp, fun a ha b hb => by obtain rfl : b = x := by simpa using hb
                                                exact hfar a ha⟩
theorem apart.of_lt {w : World} {base : Nat} {u v : Value} (hu : ∀ k, u.ownBlock = some k → k < base) (hv : ∀ k, v.ownBlock = some k → base ≤ k) : apart u v := fun g hg e => by
  have h1 := hu g hg; have h2 := hv g e; omega
theorem apart.symm {u v : Value} (h : apart u v) : apart v u := fun g hg e => h g e hg

theorem Byts.drop {w : World} {A : Option Addr} {c n : Nat} {l : List Int} (h : Byts w (.slice A l.length c) l) (hn : n ≤ l.length) :
    Byts w (.slice (if c = n then A else Option.map (fun x => x.add n) A) (l.length - n) (c - n)) (l.drop n) := by
  obtain ⟨A0, c0, hv, h1, h2, hr, h3⟩ := h
  injection hv with e1 e2 e3
  subst e1; subst e3
  refine ⟨_, _, by rw [List.length_drop], by simp; omega, by omega, fun x hx => hr x (List.mem_of_mem_drop hx), fun hp => ?_⟩
  rw [List.length_drop] at hp
  obtain ⟨b, o, rfl, hlt, hc⟩ := h3 (by omega)
  refine ⟨b, o + n, ?_, hlt, fun j hj => ?_⟩
  · rw [if_neg (by omega)]; simp [Addr.add]
  · rw [List.length_drop] at hj
    have := hc (n + j) (by omega)
    rw [Nat.add_assoc, this]
    simp [List.getElem?_drop]

theorem sweepS_nil (F : Int → List Int → Piece) (f : Nat) (p : Int) (b : List Int) (hb : b.length = 0) : sweepS F f p b = [] := by
  cases f <;> simp [sweepS, hb]
theorem sweepS_cons (F : Int → List Int → Piece) (f : Nat) (p : Int) (b : List Int) (hb : 0 < b.length) (hf : b.length ≤ f) : ∃ f', f = f' + 1 ∧ sweepS F f p b = (p, F p b) :: sweepS F f' (p + (F p b).size) (b.drop (F p b).size.toNat) := by
  obtain ⟨f', rfl⟩ : ∃ f', f = f' + 1 := ⟨f - 1, by omega⟩
  refine ⟨f', rfl, ?_⟩
  simp only [sweepS]
  rw [if_neg (by omega)]
end

section
open Go.RowKit
set_option maxRecDepth 100000
set_option maxHeartbeats 4000000
set_option linter.unusedSimpArgs false
set_option linter.unusedVariables false

theorem Blk.put7 {w : World} {g : Nat} {a0 a1 a2 a3 a4 a5 a6 : Value} (h : Blk w g #[a0, a1, a2, a3, a4, a5, a6]) (x0 x1 x2 x3 x5 x6 : Value) :
    Blk ((((((w.setCell ⟨g, 0, none⟩ x0).setCell ⟨g, 1, none⟩ x1).setCell ⟨g, 2, none⟩ x2).setCell ⟨g, 3, none⟩ x3).setCell ⟨g, 5, none⟩ x5).setCell ⟨g, 6, none⟩ x6) g #[x0, x1, x2, x3, a4, x5, x6] :=
  (((((h.put 0 x0).put 1 x1).put 2 x2).put 3 x3).put 5 x5).put 6 x6

theorem sweep_any (d : Int) (F : Int → List Int → Piece) (w0 : World)
    (hF : ∀ (p : Int) (b : List Int) (v : Value) (W : World), Ext w0 W → Byts W v b → 0 < b.length → 0 ≤ p → p + b.length ≤ 65536 →
      (d = 2 → Calls Tryz.prog 39 #[.int .i64 p, v] W (RPiece W (F p b).op (F p b).args (F p b).size (F p b).tgt)) ∧
      (d ≠ 2 → Calls Tryz.prog 40 #[.int .i64 d, v] W (RPiece W (F p b).op (F p b).args (F p b).size (F p b).tgt)) ∧ 1 ≤ (F p b).size ∧ (F p b).size ≤ b.length)
    (p0 : Int) (b : List Int) (v : Value) (w : World) (h0 : Ext w0 w) (hb : Byts w v b) (hp : 0 ≤ p0) (hpl : p0 + b.length ≤ 65536) :
    Calls Tryz.prog 16 #[.int .i64 d, .int .i64 p0, v] w fun e w' => ∃ A c L, L.map (fun x : PL => (x.at_, x.p)) = sweepS F b.length p0 b ∧ e = .returned (.slice A L.length c) ∧ Pieces w' w.heap.size (.slice A L.length c) L ∧ Ext w w' := by
  obtain ⟨i0, hi0, hz0, hz1, hz2⟩ := info_parts Tryz.info50
  have HF := Lib.hid hF; clear hF
  generalize hSW : sweepS F b.length p0 b = SW
  have HB := Lib.hid hb
  obtain ⟨A, c, rfl, hc1, hc2, hrg, hcs⟩ := hb
  have hlen : b.length ≤ 65536 := by omega
  clear hrg hcs
  go_enter Tryz.func16, Tryz.ntmps16
  go_wp2
  go_loopw [1, 2, 6] (fun p vb vo wr => ∃ (pi : Int) (bi : List Int) (f : Nat) (L : List PL), p = .int .i64 pi ∧ 0 ≤ pi ∧ pi + bi.length ≤ 65536 ∧ Byts w vb bi ∧ bi.length ≤ f ∧ SW = L.map (fun x : PL => (x.at_, x.p)) ++ sweepS F f pi bi ∧ L.length + bi.length ≤ 65536 ∧ Pieces wr w.heap.size vo L ∧ Ext w wr) (fun _ vb _ _ => match vb with | .slice _ n _ => n | _ => 0)
  case atStart => exact ⟨p0, b, b.length, [], rfl, hp, hpl, HB.out, Nat.le_refl _, by simp [hSW], by simp; omega, Pieces.nil _ _, Ext.refl _⟩
  case round =>
    obtain ⟨pi, bi, f, L, rfl, hpi, hpe, hbi, hf, hS, hLb, hP, E⟩ := hrel
    have HBI := Lib.hid hbi
    obtain ⟨Ab, cb, rfl, hcb1, hcb2, _, _⟩ := hbi
    have HP := Lib.hid hP
    obtain ⟨Av, cv, rfl⟩ := hP.slice
    clear hP
    by_cases hlt : 0 < bi.length
    · obtain ⟨F1, F2, F3, F4⟩ := HF.out pi bi _ (wr.alloc (.cells #[.string ⟨#[]⟩, .bool false, .string ⟨#[]⟩, .slice none 0 0, .int .i64 pi, .int .i64 0, .int .i64 0] 50)) ((h0.trans E).alloc _) (HBI.out.ext (E.alloc _)) hlt hpi hpe
      generalize hFp : F pi bi = q at *
      have HFP := Lib.hid hFp; clear hFp
      have HS := Lib.hid hS; have HSW := Lib.hid hSW; clear hS hSW
      obtain ⟨qop, qargs, qsize, qtgt⟩ := q
      simp only at F1 F2 F3 F4
      obtain ⟨sz, rfl⟩ := Int.eq_ofNat_of_zero_le (show 0 ≤ qsize by omega)
      rcases Bool.eq_false_or_eq_true (d == 2) with hd | hd
      · have F1' := F1 (by simpa using hd)
        clear F1 F2
        go_upto_region 7 with (go_at_call 39; refine F1'.mono ?_; rintro e w5 ⟨A5, c5, rfl, hA5, hx5⟩; have hB5 := (Blk.new _ _ _).ext hx5; have lt5 := hB5.lt; have k5 := hB5.cell; have f5 := hB5.frozen; have hB6 := hB5.put7 (.string ⟨#[]⟩) (.bool false) (.string qop) (.slice A5 qargs.length c5) (.int .i64 sz) (.int .i64 qtgt))
        have E6 : Ext wr ((((((w5.setCell ⟨wr.heap.size, 0, none⟩ (.string ⟨#[]⟩)).setCell ⟨wr.heap.size, 1, none⟩ (.bool false)).setCell ⟨wr.heap.size, 2, none⟩ (.string qop)).setCell ⟨wr.heap.size, 3, none⟩ (.slice A5 qargs.length c5)).setCell ⟨wr.heap.size, 5, none⟩ (.int .i64 sz)).setCell ⟨wr.heap.size, 6, none⟩ (.int .i64 qtgt)) :=
          ((((((((Ext.refl wr).alloc _).trans hx5).setCell (by simp) _).setCell (by simp) _).setCell (by simp) _).setCell (by simp) _).setCell (by simp) _).setCell (by simp) _
        have nA : ∀ j : Nat, (Value.slice A5 qargs.length c5).ownBlock ≠ some (⟨wr.heap.size, j, none⟩ : Addr).block := by
          intro j e
          have h := (hA5.lt _ e).1
          simp at h
          omega
        have A6 := (((((hA5.setCell ⟨wr.heap.size, 0, none⟩ (.string ⟨#[]⟩) (nA 0)).setCell ⟨wr.heap.size, 1, none⟩ (.bool false) (nA 1)).setCell ⟨wr.heap.size, 2, none⟩ (.string qop) (nA 2)).setCell ⟨wr.heap.size, 3, none⟩ (.slice A5 qargs.length c5) (nA 3)).setCell ⟨wr.heap.size, 5, none⟩ (.int .i64 sz) (nA 5)).setCell ⟨wr.heap.size, 6, none⟩ (.int .i64 qtgt) (nA 6)
        generalize ((((((w5.setCell ⟨wr.heap.size, 0, none⟩ (.string ⟨#[]⟩)).setCell ⟨wr.heap.size, 1, none⟩ (.bool false)).setCell ⟨wr.heap.size, 2, none⟩ (.string qop)).setCell ⟨wr.heap.size, 3, none⟩ (.slice A5 qargs.length c5)).setCell ⟨wr.heap.size, 5, none⟩ (.int .i64 sz)).setCell ⟨wr.heap.size, 6, none⟩ (.int .i64 qtgt)) = w6 at *
        clear hA5 hx5 hB5 lt5 k5 f5 nA
        have k6 := hB6.cell
        have f6 := hB6.frozen
        have lt6 := hB6.lt
        have P6 := HP.out.ext E6
        have ltw := E.size
        have HN := Lib.hid (show ∀ g : Nat, wr.heap.size ≤ g → some g ≠ (Value.slice Av L.length cv).ownBlock from fun g hg e => by have := (World.ownsRow.lt HP.out.row) g e.symm; omega)
        go_wp2_with (at_builtin; refine wpList_append_own_at _ rfl _ _ _ rfl w.heap.size 50 i0 _ 7 88 Tryz.underlying46 hi0 hz0 hz1 hz2 rfl (by omega) (.slice Av L.length cv) L.length _ (by rfl) (P6.row.alloc _) ⟨w6.heap.size, 0, none⟩ 1 1 [.string ⟨#[]⟩, .bool false, .string qop, .slice A5 qargs.length c5, .int .i64 pi, .int .i64 sz, .int .i64 qtgt] (by rfl) (by rfl) (World.news_of_block (cs := #[.string ⟨#[]⟩, .bool false, .string qop, .slice A5 qargs.length c5, .int .i64 pi, .int .i64 sz, .int .i64 qtgt]) (t := 50) (fr := (0, 0)) (heap_alloc_new _ _)) (by simp [Value.oneCell']) (by unfold maxLen; omega) (by omega) (by simp; omega) ?_; intro v7 w7 hown7 hgrow _ hat; have hB7 := (hB6.alloc _).grown hgrow (HN.out _ (by omega)); have k7 := hB7.cell; have f7 := hB7.frozen)
        clear k6 f6 lt6 P6 HN
        have k75 : w7.cell? ⟨wr.heap.size, 5, none⟩ = some (.int .i64 sz) := k7 5
        have G1 : sz ≤ bi.length := by omega
        have G2 : (0 : Int) ≤ (sz : Int) := by omega
        go_quiet (fail)
        go_wp2
        go_roundw
        case rel =>
          obtain ⟨f', rfl, hcons⟩ := sweepS_cons F f pi bi hlt hf
          rw [HFP.out] at hcons
          simp only [Int.toNat_natCast] at hcons
          have hown := hown7
          have h67 : Ext w6 (w6.alloc (.cells #[.string ⟨#[]⟩, .bool false, .string qop, .slice A5 qargs.length c5, .int .i64 pi, .int .i64 sz, .int .i64 qtgt] 50)) := (Ext.refl _).alloc _
          have ltA : ∀ k, (Value.slice A5 qargs.length c5).ownBlock = some k → wr.heap.size + 1 ≤ k := fun k hk => by have := (A6.lt k hk).1; simpa using this
          have hfar : ∀ y ∈ L, apart y.v (.slice A5 qargs.length c5) := fun y hy g hg e => by
            have h1 := ((HP.out.args y hy).lt g hg).2
            have h2 := ltA g e
            omega
          have hoff : apart (.slice A5 qargs.length c5) (.slice Av L.length cv) := fun g hg e => by
            have h1 := (World.ownsRow.lt HP.out.row g e).2
            have h2 := ltA g hg
            omega
          have P7 := Pieces.snoc (x := ⟨.slice A5 qargs.length c5, pi, ⟨qop, qargs, sz, qtgt⟩⟩) ((HP.out.ext E6).ext h67) rfl ((A6.ext h67).mono (by simp; omega)) hfar hoff hown7 hgrow hat
          have E7 : Ext w w7 := ext_grown ((E.trans E6).alloc _) hgrow (fun k hk => (World.ownsRow.lt HP.out.row k hk).1)
          refine ⟨pi + sz, bi.drop sz, f', L ++ [⟨.slice A5 qargs.length c5, pi, ⟨qop, qargs, sz, qtgt⟩⟩], rfl, by omega, by rw [List.length_drop]; omega, ?_, by rw [List.length_drop]; omega, ?_, by rw [List.length_drop, List.length_append]; simp; omega, ?_, E7.drewN _⟩
          · exact Byts.drop HBI.out G1
          · rw [HS.out, hcons]; simp
          · exact P7.ext ((Ext.refl _).drewN _)
        case measure => simp; omega
      · have F1' := F2 (by simpa using hd)
        clear F1 F2
        go_upto_region 7 with (go_at_call 40; refine F1'.mono ?_; rintro e w5 ⟨A5, c5, rfl, hA5, hx5⟩; have hB5 := (Blk.new _ _ _).ext hx5; have lt5 := hB5.lt; have k5 := hB5.cell; have f5 := hB5.frozen; have hB6 := hB5.put7 (.string ⟨#[]⟩) (.bool false) (.string qop) (.slice A5 qargs.length c5) (.int .i64 sz) (.int .i64 qtgt))
        have E6 : Ext wr ((((((w5.setCell ⟨wr.heap.size, 0, none⟩ (.string ⟨#[]⟩)).setCell ⟨wr.heap.size, 1, none⟩ (.bool false)).setCell ⟨wr.heap.size, 2, none⟩ (.string qop)).setCell ⟨wr.heap.size, 3, none⟩ (.slice A5 qargs.length c5)).setCell ⟨wr.heap.size, 5, none⟩ (.int .i64 sz)).setCell ⟨wr.heap.size, 6, none⟩ (.int .i64 qtgt)) :=
          ((((((((Ext.refl wr).alloc _).trans hx5).setCell (by simp) _).setCell (by simp) _).setCell (by simp) _).setCell (by simp) _).setCell (by simp) _).setCell (by simp) _
        have nA : ∀ j : Nat, (Value.slice A5 qargs.length c5).ownBlock ≠ some (⟨wr.heap.size, j, none⟩ : Addr).block := by
          intro j e
          have h := (hA5.lt _ e).1
          simp at h
          omega
        have A6 := (((((hA5.setCell ⟨wr.heap.size, 0, none⟩ (.string ⟨#[]⟩) (nA 0)).setCell ⟨wr.heap.size, 1, none⟩ (.bool false) (nA 1)).setCell ⟨wr.heap.size, 2, none⟩ (.string qop) (nA 2)).setCell ⟨wr.heap.size, 3, none⟩ (.slice A5 qargs.length c5) (nA 3)).setCell ⟨wr.heap.size, 5, none⟩ (.int .i64 sz) (nA 5)).setCell ⟨wr.heap.size, 6, none⟩ (.int .i64 qtgt) (nA 6)
        generalize ((((((w5.setCell ⟨wr.heap.size, 0, none⟩ (.string ⟨#[]⟩)).setCell ⟨wr.heap.size, 1, none⟩ (.bool false)).setCell ⟨wr.heap.size, 2, none⟩ (.string qop)).setCell ⟨wr.heap.size, 3, none⟩ (.slice A5 qargs.length c5)).setCell ⟨wr.heap.size, 5, none⟩ (.int .i64 sz)).setCell ⟨wr.heap.size, 6, none⟩ (.int .i64 qtgt)) = w6 at *
        clear hA5 hx5 hB5 lt5 k5 f5 nA
        have k6 := hB6.cell
        have f6 := hB6.frozen
        have lt6 := hB6.lt
        have P6 := HP.out.ext E6
        have ltw := E.size
        have HN := Lib.hid (show ∀ g : Nat, wr.heap.size ≤ g → some g ≠ (Value.slice Av L.length cv).ownBlock from fun g hg e => by have := (World.ownsRow.lt HP.out.row) g e.symm; omega)
        go_wp2_with (at_builtin; refine wpList_append_own_at _ rfl _ _ _ rfl w.heap.size 50 i0 _ 7 88 Tryz.underlying46 hi0 hz0 hz1 hz2 rfl (by omega) (.slice Av L.length cv) L.length _ (by rfl) (P6.row.alloc _) ⟨w6.heap.size, 0, none⟩ 1 1 [.string ⟨#[]⟩, .bool false, .string qop, .slice A5 qargs.length c5, .int .i64 pi, .int .i64 sz, .int .i64 qtgt] (by rfl) (by rfl) (World.news_of_block (cs := #[.string ⟨#[]⟩, .bool false, .string qop, .slice A5 qargs.length c5, .int .i64 pi, .int .i64 sz, .int .i64 qtgt]) (t := 50) (fr := (0, 0)) (heap_alloc_new _ _)) (by simp [Value.oneCell']) (by unfold maxLen; omega) (by omega) (by simp; omega) ?_; intro v7 w7 hown7 hgrow _ hat; have hB7 := (hB6.alloc _).grown hgrow (HN.out _ (by omega)); have k7 := hB7.cell; have f7 := hB7.frozen)
        clear k6 f6 lt6 P6 HN
        have k75 : w7.cell? ⟨wr.heap.size, 5, none⟩ = some (.int .i64 sz) := k7 5
        have G1 : sz ≤ bi.length := by omega
        have G2 : (0 : Int) ≤ (sz : Int) := by omega
        go_quiet (fail)
        go_wp2
        go_roundw
        case rel =>
          obtain ⟨f', rfl, hcons⟩ := sweepS_cons F f pi bi hlt hf
          rw [HFP.out] at hcons
          simp only [Int.toNat_natCast] at hcons
          have hown := hown7
          have h67 : Ext w6 (w6.alloc (.cells #[.string ⟨#[]⟩, .bool false, .string qop, .slice A5 qargs.length c5, .int .i64 pi, .int .i64 sz, .int .i64 qtgt] 50)) := (Ext.refl _).alloc _
          have ltA : ∀ k, (Value.slice A5 qargs.length c5).ownBlock = some k → wr.heap.size + 1 ≤ k := fun k hk => by have := (A6.lt k hk).1; simpa using this
          have hfar : ∀ y ∈ L, apart y.v (.slice A5 qargs.length c5) := fun y hy g hg e => by
            have h1 := ((HP.out.args y hy).lt g hg).2
            have h2 := ltA g e
            omega
          have hoff : apart (.slice A5 qargs.length c5) (.slice Av L.length cv) := fun g hg e => by
            have h1 := (World.ownsRow.lt HP.out.row g e).2
            have h2 := ltA g hg
            omega
          have P7 := Pieces.snoc (x := ⟨.slice A5 qargs.length c5, pi, ⟨qop, qargs, sz, qtgt⟩⟩) ((HP.out.ext E6).ext h67) rfl ((A6.ext h67).mono (by simp; omega)) hfar hoff hown7 hgrow hat
          have E7 : Ext w w7 := ext_grown ((E.trans E6).alloc _) hgrow (fun k hk => (World.ownsRow.lt HP.out.row k hk).1)
          refine ⟨pi + sz, bi.drop sz, f', L ++ [⟨.slice A5 qargs.length c5, pi, ⟨qop, qargs, sz, qtgt⟩⟩], rfl, by omega, by rw [List.length_drop]; omega, ?_, by rw [List.length_drop]; omega, ?_, by rw [List.length_drop, List.length_append]; simp; omega, ?_, E7.drewN _⟩
          · exact Byts.drop HBI.out G1
          · rw [HS.out, hcons]; simp
          · exact P7.ext ((Ext.refl _).drewN _)
        case measure => simp; omega
    · have h0 : bi.length = 0 := by omega
      have hsl : sweepS F f pi bi = [] := sweepS_nil F f pi bi h0
      rw [hsl] at hS
      simp only [List.append_nil] at hS
      have HS := Lib.hid hS; have HSW := Lib.hid hSW; clear hS hSW hsl
      go_wp2
      go_ret
      exact ⟨Av, cv, L, HS.out.symm, rfl, HP.out, E⟩
end

section
open Go.RowKit
set_option maxRecDepth 100000
set_option maxHeartbeats 4000000
set_option linter.unusedSimpArgs false
set_option linter.unusedVariables false

theorem i64_and15 (n : Int) : bits .and .i64 n 15 = n % 16 := by
  have h15 : (BitVec.ofInt 64 15).toNat = 2 ^ 4 - 1 := by decide
  have key : (BitVec.ofInt 64 n &&& BitVec.ofInt 64 15).toNat = (n % ((2 ^ 64 : Nat) : Int)).toNat % 2 ^ 4 := by
    rw [BitVec.toNat_and, BitVec.toNat_ofInt, h15, Nat.and_two_pow_sub_one_eq_mod]
  show IntKind.i64.wrap ((BitVec.ofInt 64 n &&& BitVec.ofInt 64 15).toNat : Nat) = n % 16
  rw [key, IntKind.wrap_i64]
  omega

/-- A digit of base 16. -/
def hexD (x : Int) : Int := if x < 10 then 48 + x else 55 + x
theorem hexD_range (x : Int) (h0 : 0 ≤ x) (h1 : x < 16) : 48 ≤ hexD x ∧ hexD x ≤ 70 := by unfold hexD; split <;> omega
theorem hex_at (x : Int) (h0 : 0 ≤ x) (h1 : x < 16) (h : x.toNat < (ByteArray.mk #[48, 49, 50, 51, 52, 53, 54, 55, 56, 57, 65, 66, 67, 68, 69, 70]).size) :
    (((ByteArray.mk #[48, 49, 50, 51, 52, 53, 54, 55, 56, 57, 65, 66, 67, 68, 69, 70])[x.toNat]'h).toNat : Int) = hexD x := by
  obtain ⟨k, rfl⟩ := Int.eq_ofNat_of_zero_le h0
  simp only [Int.toNat_natCast] at h ⊢
  have hk : k < 16 := by omega
  have key : ∀ i : Fin 16, (((ByteArray.mk #[48, 49, 50, 51, 52, 53, 54, 55, 56, 57, 65, 66, 67, 68, 69, 70])[i.val]'(by have := i.isLt; exact this)).toNat : Int) = hexD (i.val : Int) := by decide
  exact key ⟨k, hk⟩

def labL (n : Int) (k : Nat) : List Int := [76, if k < 1 then hexD (n / 16 / 16 / 16 % 16) else 48, if k < 2 then hexD (n / 16 / 16 % 16) else 48, if k < 3 then hexD (n / 16 % 16) else 48, if k < 4 then hexD (n % 16) else 48]
def labX (n : Int) (k : Nat) : Int := if k = 4 then n else if k = 3 then n / 16 else if k = 2 then n / 16 / 16 else if k = 1 then n / 16 / 16 / 16 else n / 16 / 16 / 16 / 16
def labC (n : Int) (k : Nat) : Array Value := ((labL n k).map (Value.int .u8)).toArray
def labelS (n : Int) : ByteArray := strOfNums [76, hexD (n / 16 / 16 / 16 % 16), hexD (n / 16 / 16 % 16), hexD (n / 16 % 16), hexD (n % 16)]

theorem label_any (n : Int) (h0 : 0 ≤ n) (h1 : n ≤ 65535) (w : World) : Calls Tryz.prog 19 #[.int .i64 n] w (RStr w (labelS n)) := by
  have kc := fun (w : World) (C : Array Value) (n c : Nat) => Lib.run_convert_bytes_const (P := Tryz.prog) w 22 5 C n c Tryz.underlying22 Tryz.underlying5
  have kb := i64_and15
  go_enter Tryz.func19, Tryz.ntmps19
  go_wp2
  go_loopw [0, 4] (fun a i wr => ∃ (k : Nat), k ≤ 4 ∧ i = .int .i64 k ∧ a = .int .i64 (labX n k) ∧ wr.heap[w.heap.size]? = some (.cells (labC n k) 5 (5, 6)) ∧ Ext w wr) (fun _ i _ => (intOf i).toNat)
  case atStart => exact ⟨4, by omega, rfl, rfl, heap_alloc_new _ _, (Ext.refl _).alloc _⟩
  case round =>
    obtain ⟨k, hk, rfl, rfl, hB, E⟩ := hrel
    have hX : 0 ≤ labX n k ∧ labX n k ≤ 65535 := by unfold labX; repeat' split
                                                    all_goals omega
    have HC := Lib.hid (show (labC n k).setIfInBounds k (.int .u8 (hexD (labX n k % 16))) = labC n (k - 1) ∨ k = 0 from by
      rcases (by omega : k = 0 ∨ k = 1 ∨ k = 2 ∨ k = 3 ∨ k = 4) with rfl | rfl | rfl | rfl | rfl
      · exact .inr rfl
      all_goals exact .inl (by simp [labC, labL, labX]))
    have HX := Lib.hid (show labX n k / 16 = labX n (k - 1) ∨ k = 0 from by
      rcases (by omega : k = 0 ∨ k = 1 ∨ k = 2 ∨ k = 3 ∨ k = 4) with rfl | rfl | rfl | rfl | rfl
      · exact .inr rfl
      all_goals exact .inl (by simp [labX]))
    by_cases hk0 : 0 < k
    · have kf : wr.frozen? ⟨w.heap.size, k, none⟩ = false := by simp [World.frozen?, hB]; omega
      have ks : wr.cell? ⟨w.heap.size, k, none⟩ = (labC n k)[k]? := by simp [World.cell?, hB]
      have hin : k < (labC n k).size := by have : (labC n k).size = 5 := by simp [labC, labL]
                                           omega
      rw [Array.getElem?_eq_getElem hin] at ks
      generalize (labC n k)[k] = y at ks
      have kh := hex_at (labX n k % 16) (by omega) (by omega)
      have HB := Lib.hid hB; clear hB
      generalize hx : labX n k = x at *
      have HXX := Lib.hid hx; clear hx
      go_wp2
      go_roundw
      case rel =>
        refine ⟨k - 1, by omega, by go_num, ?_, ?_, ?_⟩
        · rcases HX.out with h | h
          · rw [← h]
          · omega
        · have hb := HB.out
          rcases HC.out with h | h
          · rw [← h]
            simp [World.setCell, Array.getElem?_modify, hb]
          · omega
        · exact E.setCell (Nat.le_refl _) _
      case measure => simp [intOf]; omega
    · obtain rfl : k = 0 := by omega
      have kcv : (convert 22 9 (.slice (some ⟨w.heap.size, 0, none⟩) 5 5)).run Tryz.prog wr = .ok (.string (labelS n)) wr := by
        refine run_convert_bytes_arg (P := Tryz.prog) _ 22 5 Tryz.underlying22 Tryz.underlying5 _ 0 5 5 (labL n 0) rfl (fun i hi => ?_) 9 Tryz.underlying9
        rw [Nat.zero_add]
        simp only [World.cell?, hB]
        rcases (by omega : i = 0 ∨ i = 1 ∨ i = 2 ∨ i = 3 ∨ i = 4) with rfl | rfl | rfl | rfl | rfl <;> simp [labC, labL]
      have HB := Lib.hid hB; clear hB
      go_wp2
      go_ret
      exact ⟨rfl, E⟩
end

section
open Go.RowKit
open Go.Maps (Keyed)
set_option maxRecDepth 100000
set_option maxHeartbeats 4000000
set_option linter.unusedSimpArgs false
set_option linter.unusedVariables false

theorem key3 : Keyed Tryz.prog 3 := Maps.int_keyed Tryz.underlying3
theorem zero4 (w : World) : (zeroValue 4).run Tryz.prog w = .ok (.bool false) w := by kernel_rfl

theorem plainElem_bool_inv {P : Program} {e : TypeId} (he : P.underlying e = some .bool) {v : Value} {z : DataW Unit × List MemPlace} (h : plainElem P e v = some z) : ∃ x, v = .bool x ∧ z = (.lit (.bool x), []) := by
  unfold plainElem at h
  rw [he] at h
  cases v <;> simp at h
  exact ⟨_, rfl, h.symm⟩

def i64ok (x : Int) : Prop := -9223372036854775808 ≤ x ∧ x ≤ 9223372036854775807
theorem i64ok.wf {x : Int} (h : i64ok x) : (Lit.int .i64 x).wf = true := by
  have h1 := h.1; have h2 := h.2
  have e1 : IntKind.i64.min = -9223372036854775808 := by decide
  have e2 : IntKind.i64.max = 9223372036854775807 := by decide
  simp [Lit.wf, e1, e2, h1, h2]

/-- Block b is a set: f tells what is in it; it has sz members. -/
def Marks (w : World) (b : Nat) (n : Nat) (f : Int → Bool) (sz : Nat) : Prop :=
  ∃ D : DataW Unit, w.ownsMap Tryz.prog 3 (plainElem Tryz.prog 4) b n D ∧ (∀ x, i64ok x → D.atKey (.int .i64 x) (.lit (.bool false)) = .lit (.bool (f x)) ∧ Maps.has D (.int .i64 x) = f x) ∧ Maps.size D = sz

theorem Marks.made (w : World) : Marks (w.alloc (.map #[] 0)) w.heap.size 0 (fun _ => false) 0 :=
  ⟨.map [], World.ownsMap_made _ _ _ _, fun x _ => ⟨rfl, rfl⟩, rfl⟩
theorem Marks.lt {w : World} {b n : Nat} {f : Int → Bool} {sz : Nat} (h : Marks w b n f sz) : b < w.heap.size := h.choose_spec.1.lt
theorem Marks.grown {w w' : World} {b n : Nat} {f : Int → Bool} {sz : Nat} {row : Option Nat} (h : Marks w b n f sz) (hg : w.grownBy w' row) (hne : some b ≠ row) : Marks w' b n f sz := by
  obtain ⟨D, h1, h2⟩ := h
  exact ⟨D, h1.kept hg hne, h2⟩
theorem Marks.ext {w w' : World} {b n : Nat} {f : Int → Bool} {sz : Nat} (h : Marks w b n f sz) (hx : Ext w w') : Marks w' b n f sz :=
  h.grown (row := none) ⟨hx.os, hx.tape, hx.output, hx.size, fun i hi _ => Below.block hx i hi⟩ (by simp)
theorem Marks.setCell {w : World} {b n : Nat} {f : Int → Bool} {sz : Nat} (h : Marks w b n f sz) {a : Addr} (ha : b ≠ a.block) (u : Value) : Marks (w.setCell a u) b n f sz := by
  obtain ⟨D, h1, h2⟩ := h
  exact ⟨D, h1.setCell ha u, h2⟩
theorem Marks.look {w : World} {b n : Nat} {f : Int → Bool} {sz : Nat} (h : Marks w b n f sz) {x : Int} (hx : i64ok x) : (Instr.lookup 48 (.map (some b)) (.int .i64 x) false).run Tryz.prog w = .ok (.bool (f x)) w := by
  obtain ⟨D, h1, h2, _⟩ := h
  obtain ⟨v, ps, hrun, hv⟩ := h1.lookup key3 Tryz.underlying48 (zero4 w) (plainElem_bool Tryz.underlying4 false) (Maps.keyOf_int_mk Tryz.underlying3 hx.wf)
  obtain ⟨y, rfl, hy⟩ := plainElem_bool_inv Tryz.underlying4 hv
  rw [hrun]
  have := congrArg Prod.fst hy
  rw [(h2 x hx).1] at this
  simp only [DataW.lit.injEq, Lit.bool.injEq] at this
  rw [this]
theorem Marks.len {w : World} {b n : Nat} {f : Int → Bool} {sz : Nat} (h : Marks w b n f sz) (ty : TypeId) : (Builtin.len_ #[48] ty #[.map (some b)]).run Tryz.prog w = .ok (.int .i64 sz) w := by
  obtain ⟨D, h1, _, rfl⟩ := h
  exact h1.len Tryz.underlying48 ty
theorem Marks.update {w : World} {b n : Nat} {f : Int → Bool} {sz : Nat} (h : Marks w b n f sz) (hn : n < 1000000) {x : Int} (hx : i64ok x) :
    ∃ w', (Instr.mapUpdate 48 (.map (some b)) (.int .i64 x) (.bool true)).run Tryz.prog w = .ok () w' ∧ Marks w' b (n + 1) (fun y => y == x || f y) (if f x = true then sz else sz + 1) ∧ w.grownBy w' (some b) := by
  obtain ⟨D, h1, h2, hs⟩ := h
  obtain ⟨w', hrun, hown, hg⟩ := h1.update key3 Tryz.underlying48 (by unfold maxLen; omega) (Maps.keyOf_int_mk Tryz.underlying3 hx.wf) (plainElem_bool Tryz.underlying4 true)
  have hk : WideAt.IsKeyLit (.int .i64 x) := trivial
  refine ⟨w', hrun, ⟨_, hown, fun y hy => ?_, ?_⟩, hg⟩
  · by_cases e : y = x
    · subst e
      rw [Maps.atKey_put_same h1.isMap hk, Maps.has_put_same h1.isMap hk]
      simp
    · have hne : Lit.int .i64 y ≠ Lit.int .i64 x := by simpa using e
      rw [Maps.atKey_put_other hne, Maps.has_put_other hne, (h2 y hy).1, (h2 y hy).2]
      simp [e]
  · rw [Maps.size_put (h1.tidy key3), (h2 x hx).2, hs]
end
end Go.Proofs.YtnklmehphmidhaaGreatDoor
