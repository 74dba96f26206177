/- disasm: Stmts. -/
import Derived.Test.YtnklmehphmidhaaGreatDoorMg
import Derived.Deep.CutBlock
import Derived.Deep.MidRow
namespace Go.Proofs.YtnklmehphmidhaaGreatDoor
section
open Go.RowKit
set_option maxRecDepth 100000
set_option maxHeartbeats 4000000
set_option linter.unusedSimpArgs false
set_option linter.unusedVariables false

/-- A statement. -/
structure SR where
  label : ByteArray
  colon : Bool
  op : ByteArray
  args : List AR
/-- A statement that lies in memory. -/
structure SL where
  v : Value
  s : SR
def SL.cells (x : SL) : List Value := [.string x.s.label, .bool x.s.colon, .string x.s.op, x.v]
theorem SL.cells_len (l : List SL) : (l.flatMap SL.cells).length = l.length * 4 := by
  induction l with
  | nil => rfl
  | cons a l ih => rw [List.flatMap_cons, List.length_append, ih]; simp [SL.cells]; omega

/-- v owns the statements L, each with operands of its own. -/
structure Sts (w : World) (base : Nat) (v : Value) (L : List SL) : Prop where
  row : w.ownsRow base 31 4 v L.length (L.flatMap SL.cells)
  args : ∀ x ∈ L, Args w base x.v x.s.args
theorem Sts.slice {w : World} {base : Nat} {v : Value} {L : List SL} (h : Sts w base v L) : ∃ A c, v = .slice A L.length c := by
  rcases h.row.2 with ⟨rfl, hn⟩ | ⟨g, cap, cur, rfl, _⟩
  · exact ⟨none, 0, by rw [hn]⟩
  · exact ⟨_, cap, rfl⟩
theorem Sts.ext {w w' : World} {base : Nat} {v : Value} {L : List SL} (h : Sts w base v L) (hx : Ext w w') : Sts w' base v L := by
  refine ⟨World.ownsRow.kept h.row (row := none) ⟨hx.os, hx.tape, hx.output, hx.size, fun i hi _ => Below.block hx i hi⟩ ?_, fun x hm => (h.args x hm).ext hx⟩
  cases v.ownBlock <;> simp

/-- It answers statements, and a kind. -/
def RStmts (w : World) (r : List SR × Int) : Ending → World → Prop := fun e w' => ∃ v L, e = .returned (.tuple #[v, .int .i64 r.2]) ∧ L.map (fun x : SL => x.s) = r.1 ∧ Sts w' w.heap.size v L ∧ Ext w w'
theorem RStmts.none {w w' : World} {r : List SR × Int} {k : Int} (hr : r = ([], k)) (hx : Ext w w') : RStmts w r (.returned (.tuple #[.slice none 0 0, .int .i64 k])) w' := by
  subst hr
  exact ⟨_, [], rfl, rfl, ⟨World.ownsRow_nil _ _ _ _, by simp⟩, hx⟩

def wantB (l : List (Int × Piece)) (x : Int) : Bool := l.any (fun p => x == p.2.tgt)
theorem wantB_snoc (l : List (Int × Piece)) (p : Int × Piece) : (fun y => y == p.2.tgt || wantB l y) = wantB (l ++ [p]) := by
  funext y
  simp [wantB, List.any_append, Bool.or_comm]
def markB (acc : List Int) (x : Int) : Bool := decide (x ∈ acc)
def markStep (W : Int → Bool) (acc : List Int) (p : Int × Piece) : List Int := if W p.1 = true ∧ acc.length < 1000 then (if markB acc p.1 = true then acc else acc ++ [p.1]) else acc
theorem markB_step (acc : List Int) (x : Int) : (fun y => y == x || markB acc y) = markB (if markB acc x = true then acc else acc ++ [x]) ∧ (if markB acc x = true then acc.length else acc.length + 1) = (if markB acc x = true then acc else acc ++ [x]).length := by
  constructor
  · funext y
    by_cases h : x ∈ acc
    · simp [markB, h]
      intro e; subst e; exact h
    · simp [markB, h, Bool.or_comm]
      rw [Bool.eq_iff_iff]; simp [or_comm]
  · split <;> simp
def markL (W : Int → Bool) (l : List (Int × Piece)) : List Int := l.foldl (markStep W) []
theorem markL_snoc (W : Int → Bool) (l : List (Int × Piece)) (p : Int × Piece) : markL W (l ++ [p]) = markStep W (markL W l) p := by simp [markL, List.foldl_append]
def nameA (s : ByteArray) : AR := ⟨⟨#[]⟩, false, ⟨#[110]⟩, 0, s⟩
/-- A piece's statement. -/
def newArgs (m : Int → Bool) (x : Int × Piece) : List AR := if m x.2.tgt = true then x.2.args.dropLast ++ [nameA (labelS x.2.tgt)] else x.2.args
def stS (m : Int → Bool) (x : Int × Piece) : SR := ⟨if m x.1 = true then labelS x.1 else ⟨#[]⟩, m x.1, x.2.op, newArgs m x⟩
def orgS (p : Int) : SR := ⟨⟨#[]⟩, false, ⟨#[79, 82, 71]⟩, [numA false p]⟩
def allS (l : List (Int × Piece)) (p : Int) : List SR := orgS p :: l.map (stS (markB (markL (wantB l) l)))
def stmtsS (F : Int → List Int → Piece) (d p : Int) (b : List Int) : List SR × Int :=
  if d < 0 ∨ d > 2 ∨ p < 0 then ([], 1)
  else if (b.length : Int) > 65536 ∨ p > 65536 - b.length then ([], 7)
  else if b.length = 0 then ([], 0)
  else (allS (sweepS F b.length p b) p, 0)

/-- Fit for what follows. -/
structure Good (x : Int × Piece) : Prop where
  a0 : 0 ≤ x.1
  a1 : x.1 ≤ 65535
  t0 : -1 ≤ x.2.tgt
  t1 : x.2.tgt ≤ 65535
  n0 : 0 ≤ x.2.tgt → 0 < x.2.args.length
  n1 : x.2.args.length ≤ 1000

theorem sweepS_len (F : Int → List Int → Piece) : ∀ (f : Nat) (p : Int) (b : List Int), (sweepS F f p b).length ≤ f
  | 0, _, _ => by simp [sweepS]
  | f + 1, p, b => by
    simp only [sweepS]
    split
    · simp
    · simp [sweepS_len F f]

theorem flatMap_at {α : Type} (f : α → List Value) (m : Nat) (hf : ∀ x, (f x).length = m) : ∀ (L : List α) (k j : Nat) (x : α), L[k]? = some x → j < m → (L.flatMap f)[k * m + j]? = (f x)[j]?
  | [], k, j, x, h, _ => by simp at h
  | a :: L, 0, j, x, h, hj => by
    simp at h; subst h
    rw [List.flatMap_cons, Nat.zero_mul, Nat.zero_add, List.getElem?_append_left (by rw [hf]; exact hj)]
  | a :: L, k + 1, j, x, h, hj => by
    rw [List.flatMap_cons, List.getElem?_append_right (by rw [hf, Nat.succ_mul]; omega), hf, show (k + 1) * m + j - m = k * m + j by rw [Nat.succ_mul]; omega]
    exact flatMap_at f m hf L k j x (by simpa using h) hj
theorem own_cell {w : World} {base e size n cap g : Nat} {xs : List Value} (h : w.ownsRow base e size (.slice (some ⟨g, 0, none⟩) n cap) n xs) {j : Nat} {u : Value} (hu : xs[j]? = some u) : w.cell? ⟨g, j, none⟩ = some u := by
  obtain ⟨h1, h2 | ⟨g', cap', cur, hv, _, hg, _, _, _, hx⟩⟩ := h
  · simp at h2
  · injection hv with e1 _ _
    injection e1 with e1
    injection e1 with e1
    subst e1
    have hlt : j < xs.length := by
      rcases Nat.lt_or_ge j xs.length with h | h
      · exact h
      · rw [List.getElem?_eq_none h] at hu; cases hu
    rw [← hx, List.getElem?_take_of_lt (by rw [← h1]; exact hlt)] at hu
    simp [World.cell?, hg]
    simpa using hu
/-- A piece's cells. -/
theorem piece_cells {w : World} {base cap g : Nat} {L : List PL} (h : w.ownsRow base 50 7 (.slice (some ⟨g, 0, none⟩) L.length cap) L.length (L.flatMap PL.cells)) {k : Nat} {x : PL} (hx : L[k]? = some x) :
    w.cell? ⟨g, k * 7, none⟩ = some (.string ⟨#[]⟩) ∧ w.cell? ⟨g, k * 7 + 1, none⟩ = some (.bool false) ∧ w.cell? ⟨g, k * 7 + 2, none⟩ = some (.string x.p.op) ∧ w.cell? ⟨g, k * 7 + 3, none⟩ = some x.v ∧ w.cell? ⟨g, k * 7 + 4, none⟩ = some (.int .i64 x.at_) ∧ w.cell? ⟨g, k * 7 + 5, none⟩ = some (.int .i64 x.p.size) ∧ w.cell? ⟨g, k * 7 + 6, none⟩ = some (.int .i64 x.p.tgt) := by
  have key : ∀ j u, j < 7 → (PL.cells x)[j]? = some u → w.cell? ⟨g, k * 7 + j, none⟩ = some u := fun j u hj hu => own_cell h (by rw [flatMap_at PL.cells 7 (fun _ => rfl) L k j x hx hj]; exact hu)
  exact ⟨key 0 _ (by omega) rfl, key 1 _ (by omega) rfl, key 2 _ (by omega) rfl, key 3 _ (by omega) rfl, key 4 _ (by omega) rfl, key 5 _ (by omega) rfl, key 6 _ (by omega) rfl⟩

theorem own_mono {w : World} {base base' e size n : Nat} {v : Value} {xs : List Value} (h : w.ownsRow base e size v n xs) (hb : base' ≤ base) : w.ownsRow base' e size v n xs := by
  obtain ⟨h1, h2⟩ := h
  refine ⟨h1, ?_⟩
  rcases h2 with h2 | ⟨g, cap, cur, hv, hg, r⟩
  · exact .inl h2
  · exact .inr ⟨g, cap, cur, hv, Nat.le_trans hb hg, r⟩
theorem markL_sub (W : Int → Bool) : ∀ (l : List (Int × Piece)) (acc : List Int) (y : Int), y ∈ l.foldl (markStep W) acc → y ∈ acc ∨ ∃ p ∈ l, p.1 = y
  | [], acc, y, h => .inl h
  | p :: l, acc, y, h => by
    rw [List.foldl_cons] at h
    rcases markL_sub W l _ y h with h | ⟨q, hq, e⟩
    · unfold markStep at h
      split at h
      · split at h
        · exact .inl h
        · rcases List.mem_append.1 h with h | h
          · exact .inl h
          · exact .inr ⟨p, by simp, by simpa using (List.mem_singleton.1 h).symm⟩
      · exact .inl h
    · exact .inr ⟨q, by simp [hq], e⟩
/-- A marked place is a place. -/
theorem marked_ge {W : Int → Bool} {l : List (Int × Piece)} (hG : ∀ x ∈ l, Good x) {y : Int} (h : markB (markL W l) y = true) : 0 ≤ y ∧ y ≤ 65535 := by
  have h' : y ∈ markL W l := by simpa [markB] using h
  rcases markL_sub W l [] y h' with h | ⟨p, hp, rfl⟩
  · simp at h
  · exact ⟨(hG p hp).a0, (hG p hp).a1⟩

/-- The last operand of a row of one's own is stored. -/
theorem Args.last {w : World} {base g n c : Nat} {l : List AR} (h : Args w base (.slice (some ⟨g, 0, none⟩) n c) l) (hn : l.length = n) (h0 : 0 < n) (a : AR) :
    (∀ j, j < 8 → ∃ u, w.cell? ⟨g, (n - 1) * 8 + j, none⟩ = some u) ∧ (∀ j, w.frozen? ⟨g, j, none⟩ = false) ∧
    ∃ cur, w.heap[g]? = some (.cells cur 41 (0, 0)) ∧ n * 8 ≤ cur.size ∧
      ∀ w' : World, w'.heap[g]? = some (.cells ((((((((cur.setIfInBounds ((n - 1) * 8) (.string a.word)).setIfInBounds ((n - 1) * 8 + 1) (.string ⟨#[]⟩)).setIfInBounds ((n - 1) * 8 + 2) (.bool false)).setIfInBounds ((n - 1) * 8 + 3) (.bool a.mem)).setIfInBounds ((n - 1) * 8 + 4) (.string a.op)).setIfInBounds ((n - 1) * 8 + 5) (.int .u16 a.n)).setIfInBounds ((n - 1) * 8 + 6) (.string a.name)).setIfInBounds ((n - 1) * 8 + 7) (.slice none 0 0)) 41 (0, 0)) →
        Args w' base (.slice (some ⟨g, 0, none⟩) n c) (l.dropLast ++ [a]) := by
  subst hn
  obtain ⟨h1, h2 | ⟨g', cap', cur, hv, hb, hg, hcap, hm, hs, hx⟩⟩ := h
  · simp at h2
  injection hv with e1 e2 e3
  injection e1 with e1
  injection e1 with e1
  subst e1; subst e3
  have hsz : l.length * 8 ≤ cur.size := by rw [hs]; exact Nat.mul_le_mul_right 8 hcap
  refine ⟨fun j hj => ?_, fun j => by simp [World.frozen?, hg], cur, hg, hsz, fun w' hw' => ?_⟩
  · refine ⟨cur[(l.length - 1) * 8 + j]'(by omega), ?_⟩
    simp only [World.cell?, hg]
    exact Array.getElem?_eq_getElem (by omega)
  · have hl : (l.dropLast ++ [a]).length = l.length := by simp; omega
    refine ⟨by rw [AR.cells_len, hl], .inr ⟨g, c, _, by rw [hl], hb, hw', by rw [hl]; exact hcap, hm, by simp [hs], ?_⟩⟩
    rw [hl]
    obtain ⟨l', b, rfl⟩ : ∃ l' b, l = l' ++ [b] := by
      rcases List.eq_nil_or_concat l with h | ⟨l', b, h⟩
      · subst h; simp at h0
      · exact ⟨l', b, by simpa using h⟩
    have hm8 : (l'.flatMap AR.cells).length = l'.length * 8 := AR.cells_len l'
    rw [List.dropLast_concat, List.flatMap_append] 
    rw [List.flatMap_append] at hx
    simp only [List.length_append, List.length_cons, List.length_nil, Nat.zero_add, Nat.add_sub_cancel] at hx hsz ⊢
    apply List.ext_getElem?
    intro i
    have hi := congrArg (·[i]?) hx
    simp only [List.getElem?_take] at hi ⊢
    by_cases h1 : i < l'.length * 8
    · rw [if_pos (by omega)] at hi ⊢
      rw [List.getElem?_append_left (by omega)] at hi ⊢
      rw [← hi]
      simp only [Array.getElem?_toList, Array.getElem?_setIfInBounds]
      repeat rw [if_neg (by omega)]
    · by_cases h2 : i < (l'.length + 1) * 8
      · rw [if_pos h2]
        rw [List.getElem?_append_right (by omega), hm8]
        simp only [Array.getElem?_toList, Array.getElem?_setIfInBounds, Array.size_setIfInBounds]
        obtain ⟨j, rfl⟩ : ∃ j, i = l'.length * 8 + j := ⟨i - l'.length * 8, by omega⟩
        have hj : j < 8 := by omega
        rcases (by omega : j = 0 ∨ j = 1 ∨ j = 2 ∨ j = 3 ∨ j = 4 ∨ j = 5 ∨ j = 6 ∨ j = 7) with rfl | rfl | rfl | rfl | rfl | rfl | rfl | rfl
        all_goals simp [AR.cells]
        all_goals omega
      · rw [if_neg h2, List.getElem?_eq_none (by rw [List.length_append, hm8]; simp [AR.cells]; omega)]

theorem put8 (w : World) (g m : Nat) {u0 u1 u2 u3 u4 u5 u6 u7 : Value} (c0 : w.cell? ⟨g, m, none⟩ = some u0) (c1 : w.cell? ⟨g, m + 1, none⟩ = some u1) (c2 : w.cell? ⟨g, m + 2, none⟩ = some u2) (c3 : w.cell? ⟨g, m + 3, none⟩ = some u3) (c4 : w.cell? ⟨g, m + 4, none⟩ = some u4) (c5 : w.cell? ⟨g, m + 5, none⟩ = some u5) (c6 : w.cell? ⟨g, m + 6, none⟩ = some u6) (c7 : w.cell? ⟨g, m + 7, none⟩ = some u7) (x0 x1 x2 x3 x4 x5 x6 x7 : Value) :
    (w.setCell ⟨g, m, none⟩ x0).cell? ⟨g, m + 1, none⟩ = some u1 ∧
    ((w.setCell ⟨g, m, none⟩ x0).setCell ⟨g, m + 1, none⟩ x1).cell? ⟨g, m + 2, none⟩ = some u2 ∧
    (((w.setCell ⟨g, m, none⟩ x0).setCell ⟨g, m + 1, none⟩ x1).setCell ⟨g, m + 2, none⟩ x2).cell? ⟨g, m + 3, none⟩ = some u3 ∧
    ((((w.setCell ⟨g, m, none⟩ x0).setCell ⟨g, m + 1, none⟩ x1).setCell ⟨g, m + 2, none⟩ x2).setCell ⟨g, m + 3, none⟩ x3).cell? ⟨g, m + 4, none⟩ = some u4 ∧
    (((((w.setCell ⟨g, m, none⟩ x0).setCell ⟨g, m + 1, none⟩ x1).setCell ⟨g, m + 2, none⟩ x2).setCell ⟨g, m + 3, none⟩ x3).setCell ⟨g, m + 4, none⟩ x4).cell? ⟨g, m + 5, none⟩ = some u5 ∧
    ((((((w.setCell ⟨g, m, none⟩ x0).setCell ⟨g, m + 1, none⟩ x1).setCell ⟨g, m + 2, none⟩ x2).setCell ⟨g, m + 3, none⟩ x3).setCell ⟨g, m + 4, none⟩ x4).setCell ⟨g, m + 5, none⟩ x5).cell? ⟨g, m + 6, none⟩ = some u6 ∧
    (((((((w.setCell ⟨g, m, none⟩ x0).setCell ⟨g, m + 1, none⟩ x1).setCell ⟨g, m + 2, none⟩ x2).setCell ⟨g, m + 3, none⟩ x3).setCell ⟨g, m + 4, none⟩ x4).setCell ⟨g, m + 5, none⟩ x5).setCell ⟨g, m + 6, none⟩ x6).cell? ⟨g, m + 7, none⟩ = some u7 := by
  exact ⟨(World.cell?_setCell_other _ _ _ _ (by simp)).trans (c1),
    (World.cell?_setCell_other _ _ _ _ (by simp)).trans ((World.cell?_setCell_other _ _ _ _ (by simp)).trans (c2)),
    (World.cell?_setCell_other _ _ _ _ (by simp)).trans ((World.cell?_setCell_other _ _ _ _ (by simp)).trans ((World.cell?_setCell_other _ _ _ _ (by simp)).trans (c3))),
    (World.cell?_setCell_other _ _ _ _ (by simp)).trans ((World.cell?_setCell_other _ _ _ _ (by simp)).trans ((World.cell?_setCell_other _ _ _ _ (by simp)).trans ((World.cell?_setCell_other _ _ _ _ (by simp)).trans (c4)))),
    (World.cell?_setCell_other _ _ _ _ (by simp)).trans ((World.cell?_setCell_other _ _ _ _ (by simp)).trans ((World.cell?_setCell_other _ _ _ _ (by simp)).trans ((World.cell?_setCell_other _ _ _ _ (by simp)).trans ((World.cell?_setCell_other _ _ _ _ (by simp)).trans (c5))))),
    (World.cell?_setCell_other _ _ _ _ (by simp)).trans ((World.cell?_setCell_other _ _ _ _ (by simp)).trans ((World.cell?_setCell_other _ _ _ _ (by simp)).trans ((World.cell?_setCell_other _ _ _ _ (by simp)).trans ((World.cell?_setCell_other _ _ _ _ (by simp)).trans ((World.cell?_setCell_other _ _ _ _ (by simp)).trans (c6)))))),
    (World.cell?_setCell_other _ _ _ _ (by simp)).trans ((World.cell?_setCell_other _ _ _ _ (by simp)).trans ((World.cell?_setCell_other _ _ _ _ (by simp)).trans ((World.cell?_setCell_other _ _ _ _ (by simp)).trans ((World.cell?_setCell_other _ _ _ _ (by simp)).trans ((World.cell?_setCell_other _ _ _ _ (by simp)).trans ((World.cell?_setCell_other _ _ _ _ (by simp)).trans (c7)))))))⟩

theorem put8_other (w : World) (g m : Nat) (a : Addr) (hne : a.block ≠ g) (x0 x1 x2 x3 x4 x5 x6 x7 : Value) :
    ((((((((w.setCell ⟨g, m, none⟩ x0).setCell ⟨g, m + 1, none⟩ x1).setCell ⟨g, m + 2, none⟩ x2).setCell ⟨g, m + 3, none⟩ x3).setCell ⟨g, m + 4, none⟩ x4).setCell ⟨g, m + 5, none⟩ x5).setCell ⟨g, m + 6, none⟩ x6).setCell ⟨g, m + 7, none⟩ x7).cell? a = w.cell? a :=
  (World.cell?_setCell_other _ _ _ _ (fun e => hne (by rw [← e]))).trans ((World.cell?_setCell_other _ _ _ _ (fun e => hne (by rw [← e]))).trans ((World.cell?_setCell_other _ _ _ _ (fun e => hne (by rw [← e]))).trans ((World.cell?_setCell_other _ _ _ _ (fun e => hne (by rw [← e]))).trans ((World.cell?_setCell_other _ _ _ _ (fun e => hne (by rw [← e]))).trans ((World.cell?_setCell_other _ _ _ _ (fun e => hne (by rw [← e]))).trans ((World.cell?_setCell_other _ _ _ _ (fun e => hne (by rw [← e]))).trans ((World.cell?_setCell_other _ _ _ _ (fun e => hne (by rw [← e]))).trans (rfl))))))))

theorem block_set {w : World} {g i : Nat} {cs : Array Value} {t : TypeId} {fr : Nat × Nat} (h : w.heap[g]? = some (.cells cs t fr)) (v : Value) : (w.setCell ⟨g, i, none⟩ v).heap[g]? = some (.cells (cs.setIfInBounds i v) t fr) := by
  simp [World.setCell, Array.getElem?_modify, h]
structure LastSt (w w7 : World) (g : Nat) (W : World) (cs : Array Value) : Prop where
  here : W.heap[g]? = some (.cells cs 41 (0, 0))
  grown : w.grownBy W (some g)
  blk : ∀ g' cs, g' ≠ g → Blk w7 g' cs → Blk W g' cs
theorem LastSt.step {w w7 : World} {g : Nat} {W : World} {cs : Array Value} (h : LastSt w w7 g W cs) (i : Nat) (v : Value) : LastSt w w7 g (W.setCell ⟨g, i, none⟩ v) (cs.setIfInBounds i v) := by
  refine ⟨block_set h.here v, ⟨h.grown.os, h.grown.tape, h.grown.output, by simpa using h.grown.size, fun j hj hne => ?_⟩, fun g' cs' hg' hb => Blk.other (h.blk g' cs' hg' hb) hg' v⟩
  have hne' : j ≠ g := fun e => hne (by rw [e])
  rw [Below.heap_setCell _ _ _ _ hne']
  exact h.grown.block j hj hne
theorem Args.last_done {w w7 : World} {base g n c : Nat} {l : List AR} (h : Args w base (.slice (some ⟨g, 0, none⟩) (n + 1) c) l) (hn : l.length = n + 1) (a : AR) (hx : Ext w w7) :
    ∃ W, W = ((((((((w7.setCell ⟨g, n * 8, none⟩ (.string a.word)).setCell ⟨g, n * 8 + 1, none⟩ (.string ⟨#[]⟩)).setCell ⟨g, n * 8 + 2, none⟩ (.bool false)).setCell ⟨g, n * 8 + 3, none⟩ (.bool a.mem)).setCell ⟨g, n * 8 + 4, none⟩ (.string a.op)).setCell ⟨g, n * 8 + 5, none⟩ (.int .u16 a.n)).setCell ⟨g, n * 8 + 6, none⟩ (.string a.name)).setCell ⟨g, n * 8 + 7, none⟩ (.slice none 0 0)) ∧ Args W base (.slice (some ⟨g, 0, none⟩) (n + 1) c) (l.dropLast ++ [a]) ∧ w.grownBy W (some g) ∧ (∀ g' cs, g' ≠ g → Blk w7 g' cs → Blk W g' cs) := by
  obtain ⟨_, _, cur, hcur, hsz, hlast⟩ := Args.last h hn (by omega) a
  simp only [Nat.add_sub_cancel] at hlast
  have p0 : LastSt w w7 g w7 cur := ⟨by rw [Below.block hx g (Array.getElem?_eq_some_iff.1 hcur).1]; exact hcur, ⟨hx.os, hx.tape, hx.output, hx.size, fun i hi _ => Below.block hx i hi⟩, fun _ _ _ h => h⟩
  have p1 := p0.step (n * 8) (.string a.word)
  have p2 := p1.step (n * 8 + 1) (.string ⟨#[]⟩)
  have p3 := p2.step (n * 8 + 2) (.bool false)
  have p4 := p3.step (n * 8 + 3) (.bool a.mem)
  have p5 := p4.step (n * 8 + 4) (.string a.op)
  have p6 := p5.step (n * 8 + 5) (.int .u16 a.n)
  have p7 := p6.step (n * 8 + 6) (.string a.name)
  have p8 := p7.step (n * 8 + 7) (.slice none 0 0)
  exact ⟨_, rfl, hlast _ p8.here, p8.grown, p8.blk⟩
end

section
open Go.RowKit
set_option maxRecDepth 100000
set_option maxHeartbeats 4000000
set_option linter.unusedSimpArgs false
set_option linter.unusedVariables false

/-- w' is w but for blocks in B, and new ones. -/
structure Tr (B : Nat → Prop) (w w' : World) : Prop where
  os : w'.os = w.os
  tape : w'.tape = w.tape
  output : w'.output = w.output
  size : w.heap.size ≤ w'.heap.size
  block : ∀ b, b < w.heap.size → ¬ B b → w'.heap[b]? = w.heap[b]?
theorem Tr.of_ext {B : Nat → Prop} {w w' : World} (h : Ext w w') : Tr B w w' := ⟨h.os, h.tape, h.output, h.size, fun b hb _ => Below.block h b hb⟩
theorem Tr.of_grown {B : Nat → Prop} {w w' : World} {row : Option Nat} (h : w.grownBy w' row) (hB : ∀ b, row = some b → B b) : Tr B w w' :=
  ⟨h.os, h.tape, h.output, h.size, fun b hb hn => h.block b hb (fun e => hn (hB b e.symm))⟩
theorem Tr.trans {B : Nat → Prop} {a b c : World} (h : Tr B a b) (k : Tr B b c) : Tr B a c :=
  ⟨k.os.trans h.os, k.tape.trans h.tape, k.output.trans h.output, Nat.le_trans h.size k.size, fun i hi hn => (k.block i (Nat.lt_of_lt_of_le hi h.size) hn).trans (h.block i hi hn)⟩
theorem Tr.set {B : Nat → Prop} {w w' : World} (h : Tr B w w') {a : Addr} (ha : B a.block) (v : Value) : Tr B w (w'.setCell a v) :=
  ⟨h.os, h.tape, h.output, by simpa using h.size, fun i hi hn => by
    have hne : i ≠ a.block := fun e => hn (e ▸ ha)
    rw [Below.heap_setCell _ _ _ _ hne]
    exact h.block i hi hn⟩
theorem Tr.alloc {B : Nat → Prop} {w w' : World} (h : Tr B w w') (o : Obj) : Tr B w (w'.alloc o) := h.trans (Tr.of_ext ((Ext.refl _).alloc o))
theorem Tr.drew {B : Nat → Prop} {w w' : World} (h : Tr B w w') : Tr B w w'.drew := h.trans (Tr.of_ext (Ext.refl _).drew)
theorem Tr.mono {B B' : Nat → Prop} {w w' : World} (h : Tr B w w') (hB : ∀ b, B b → B' b) : Tr B' w w' := ⟨h.os, h.tape, h.output, h.size, fun i hi hn => h.block i hi (fun e => hn (hB i e))⟩
theorem Tr.own {B : Nat → Prop} {w w' : World} (t : Tr B w w') {base e size n : Nat} {v : Value} {xs : List Value} (h : w.ownsRow base e size v n xs) (hne : ∀ g, v.ownBlock = some g → ¬ B g) : w'.ownsRow base e size v n xs := by
  refine ⟨h.1, ?_⟩
  rcases h.2 with hn | ⟨g, cap, cur, rfl, hb, hgg, rest⟩
  · exact .inl hn
  · refine .inr ⟨g, cap, cur, rfl, hb, ?_, rest⟩
    rw [t.block g (Array.getElem?_eq_some_iff.1 hgg).1 (hne g rfl)]
    exact hgg
theorem Tr.args {B : Nat → Prop} {w w' : World} (t : Tr B w w') {base : Nat} {v : Value} {l : List AR} (h : Args w base v l) (hne : ∀ g, v.ownBlock = some g → ¬ B g) : Args w' base v l := t.own h hne
theorem Tr.marks {B : Nat → Prop} {w w' : World} (t : Tr B w w') {b n : Nat} {f : Int → Bool} {sz : Nat} (h : Marks w b n f sz) (hne : ¬ B b) : Marks w' b n f sz := by
  have hlt := h.lt
  obtain ⟨D, h1, h2⟩ := h
  obtain ⟨es, clock, hb, r⟩ := h1
  exact ⟨D, ⟨es, clock, (t.block b hlt hne).trans hb, r⟩, h2⟩
theorem Tr.ext {B : Nat → Prop} {w0 w w' : World} (t : Tr B w w') (h : Ext w0 w) (hB : ∀ b, B b → w0.heap.size ≤ b) : Ext w0 w' :=
  ⟨t.os.trans h.os, t.tape.trans h.tape, t.output.trans h.output, Nat.le_trans h.size t.size, fun i hi => (t.block i (Nat.lt_of_lt_of_le hi h.size) (fun e => absurd (hB i e) (by omega))).trans (Below.block h i hi)⟩
theorem Tr.blk {B : Nat → Prop} {w w' : World} (t : Tr B w w') {g : Nat} {cs : Array Value} (h : Blk w g cs) (hne : ¬ B g) : Blk w' g cs := by
  have hlt := h.lt
  obtain ⟨ty, h⟩ := h
  exact ⟨ty, (t.block g hlt hne).trans h⟩

def stPre (L : List PL) (m : Int → Bool) (V0 : Value) (p0 : Int) (k : Nat) : List SL := (⟨V0, orgS p0⟩ : SL) :: (L.take k).map (fun x => ⟨x.v, stS m (x.at_, x.p)⟩)
/-- The loop that lays the statements: behind k of them. -/
structure StSt (w w1 w4 : World) (L : List PL) (g c1 : Nat) (acc : List Int) (p0 : Int) (k : Nat) (vo : Value) (wr : World) : Prop where
  E : Ext w wr
  sz : w4.heap.size + 1 ≤ wr.heap.size
  R : wr.ownsRow w.heap.size 50 7 (.slice (some ⟨g, 0, none⟩) L.length c1) L.length (L.flatMap PL.cells)
  M : Marks wr (w1.heap.size + 1) L.length (markB acc) acc.length
  O : wr.ownsRow (w4.heap.size + 1) 31 4 vo (k + 1) ((stPre L (markB acc) (.slice (some ⟨w4.heap.size, 0, none⟩) 1 1) p0 k).flatMap SL.cells)
  A0 : Args wr w.heap.size (.slice (some ⟨w4.heap.size, 0, none⟩) 1 1) [numA false p0]
  AA : ∀ i x, L[i]? = some x → Args wr w.heap.size x.v (if i < k then newArgs (markB acc) (x.at_, x.p) else x.p.args)

theorem stPre_succ {L : List PL} {m : Int → Bool} {V0 : Value} {p0 : Int} {k : Nat} {x : PL} (hx : L[k]? = some x) : stPre L m V0 p0 (k + 1) = stPre L m V0 p0 k ++ [⟨x.v, stS m (x.at_, x.p)⟩] := by
  simp [stPre, List.take_add_one, hx]

theorem StSt.round {w w1 w4 wr w8 w10 : World} {L : List PL} {g c1 k : Nat} {acc : List Int} {p0 : Int} {vo v10 : Value} {x : PL}
    (h : StSt w w1 w4 L g c1 acc p0 k vo wr) (hx : L[k]? = some x) (P : Pieces w1 w.heap.size (.slice (some ⟨g, 0, none⟩) L.length c1) L) (E1 : Ext w w1) (hs4 : w1.heap.size + 2 ≤ w4.heap.size)
    (T8 : Tr (fun b => x.v.ownBlock = some b) wr w8) (hA8 : Args w8 w.heap.size x.v (newArgs (markB acc) (x.at_, x.p)))
    (T10 : Tr (fun b => b = wr.heap.size ∨ vo.ownBlock = some b) w8 w10)
    (hown : w10.ownsRow (w4.heap.size + 1) 31 4 v10 (k + 1 + 1) ((stPre L (markB acc) (.slice (some ⟨w4.heap.size, 0, none⟩) 1 1) p0 k).flatMap SL.cells ++ SL.cells ⟨x.v, stS (markB acc) (x.at_, x.p)⟩)) :
    StSt w w1 w4 L g c1 acc p0 (k + 1) v10 w10 := by
  have hmem := List.mem_of_getElem? hx
  have hst : ∀ y ∈ L, ∀ j, y.v.ownBlock = some j → w.heap.size ≤ j ∧ j < w1.heap.size := fun y hy j hj => (P.args y hy).lt j hj
  have hvo : ∀ j, vo.ownBlock = some j → w4.heap.size + 1 ≤ j ∧ j < wr.heap.size := fun j hj => World.ownsRow.lt h.O j hj
  have hg := World.ownsRow.lt P.row g rfl
  have hsz := h.sz
  have hsw := E1.size
  have nB2 : ∀ j, j < w4.heap.size + 1 → ¬ (j = wr.heap.size ∨ vo.ownBlock = some j) := fun j hj e => by
    rcases e with e | e
    · omega
    · have := (hvo j e).1; omega
  refine ⟨?_, Nat.le_trans hsz (Nat.le_trans T8.size T10.size), ?_, ?_, ?_, ?_, fun i y hy => ?_⟩
  · refine T10.ext (T8.ext h.E (fun b hb => (hst x hmem b hb).1)) (fun b hb => ?_)
    rcases hb with rfl | hb
    · omega
    · have := (hvo b hb).1; omega
  · refine T10.own (T8.own h.R (fun b hb e => ?_)) (fun b hb => nB2 b ?_)
    · injection hb with hb; subst hb
      exact P.off x hmem _ e rfl
    · injection hb with hb; subst hb
      show g < _
      omega
  · refine T10.marks (T8.marks h.M (fun e => ?_)) (nB2 _ (by omega))
    have := (hst x hmem _ e).2; omega
  · rw [stPre_succ hx, List.flatMap_append]
    simpa using hown
  · refine T10.args (T8.args h.A0 (fun b hb e => ?_)) (fun b hb => nB2 b ?_)
    · injection hb with hb
      have := (hst x hmem _ e).2
      simp at hb
      omega
    · injection hb with hb; subst hb
      show w4.heap.size < _
      omega
  · have hy' := List.mem_of_getElem? hy
    have h2 : ∀ b, y.v.ownBlock = some b → ¬ (b = wr.heap.size ∨ vo.ownBlock = some b) := fun b hb => nB2 b (by have := (hst y hy' b hb).2; omega)
    by_cases hik : i = k
    · subst hik
      rw [hx] at hy; injection hy with hy; subst hy
      rw [if_pos (by omega)]
      exact T10.args hA8 h2
    · have hAA := h.AA i y hy
      have hne : ∀ b, y.v.ownBlock = some b → ¬ x.v.ownBlock = some b := fun b hb e => by
        obtain ⟨hik1, e1⟩ := List.getElem?_eq_some_iff.1 hy
        obtain ⟨hik2, e2⟩ := List.getElem?_eq_some_iff.1 hx
        rcases Nat.lt_or_gt_of_ne hik with hlt | hlt
        · have := (List.pairwise_iff_getElem.1 P.pair) i k hik1 hik2 hlt
          rw [e1, e2] at this
          exact this b hb e
        · have := (List.pairwise_iff_getElem.1 P.pair) k i hik2 hik1 hlt
          rw [e1, e2] at this
          exact this b e hb
      have := T10.args (T8.args hAA hne) h2
      by_cases h3 : i < k
      · rw [if_pos h3] at this; rw [if_pos (by omega)]; exact this
      · rw [if_neg h3] at this; rw [if_neg (by omega)]; exact this

theorem own_slice {w : World} {base e size n : Nat} {v : Value} {xs : List Value} (h : w.ownsRow base e size v n xs) : ∃ A c, v = .slice A n c := by
  rcases h.2 with ⟨rfl, hn⟩ | ⟨g, cap, cur, rfl, _⟩
  · exact ⟨none, 0, by rw [hn]⟩
  · exact ⟨_, cap, rfl⟩
end

section
open Go.RowKit
set_option maxRecDepth 100000
set_option maxHeartbeats 4000000
set_option linter.unusedSimpArgs false
set_option linter.unusedVariables false

theorem stmts_any (d : Int) (F : Int → List Int → Piece) (w0 : World)
    (hF : ∀ (p : Int) (b : List Int) (v : Value) (W : World), Ext w0 W → Byts W v b → 0 < b.length → 0 ≤ p → p + b.length ≤ 65536 →
      (d = 2 → Calls Tryz.prog 39 #[.int .i64 p, v] W (RPiece W (F p b).op (F p b).args (F p b).size (F p b).tgt)) ∧
      (d ≠ 2 → Calls Tryz.prog 40 #[.int .i64 d, v] W (RPiece W (F p b).op (F p b).args (F p b).size (F p b).tgt)) ∧ 1 ≤ (F p b).size ∧ (F p b).size ≤ b.length)
    (p0 : Int) (hp : i64ok p0) (b : List Int) (v : Value) (w : World) (h0 : Ext w0 w) (hb : Byts w v b) (hG : 0 ≤ p0 → p0 + b.length ≤ 65536 → ∀ x ∈ sweepS F b.length p0 b, Good x) :
    Calls Tryz.prog 9 #[.int .i64 d, .int .i64 p0, v] w (RStmts w (stmtsS F d p0 b)) := by
  have HB := Lib.hid hb
  obtain ⟨A, c, rfl, hc1, hc2, _, _⟩ := hb
  have hmm := @run_makeMap Tryz.prog
  obtain ⟨i1, hi0, hz0, hz1, hz2⟩ := info_parts Tryz.info31
  have HF := Lib.hid hF; clear hF
  by_cases hd0 : d < 0
  · go_enter Tryz.func9, Tryz.ntmps9
    go_wp2
    go_ret2
    exact RStmts.none (by simp [stmtsS, hd0]) (Ext.refl _)
  by_cases hd2 : 2 < d
  · go_enter Tryz.func9, Tryz.ntmps9
    go_wp2
    go_ret2
    exact RStmts.none (by simp [stmtsS, hd2]) (Ext.refl _)
  by_cases hp0 : p0 < 0
  · go_enter Tryz.func9, Tryz.ntmps9
    go_wp2
    go_ret2
    exact RStmts.none (by simp [stmtsS, hp0]) (Ext.refl _)
  by_cases hl : 65536 < b.length
  · go_enter Tryz.func9, Tryz.ntmps9
    go_wp2
    go_ret2
    exact RStmts.none (by unfold stmtsS; rw [if_neg (by omega), if_pos (by omega)]) (Ext.refl _)
  have hq1 := hp.1; have hq2 := hp.2
  by_cases hl2 : (65536 : Int) - b.length < p0
  · go_enter Tryz.func9, Tryz.ntmps9
    go_wp2
    all_goals go_ret2
    exact RStmts.none (by unfold stmtsS; rw [if_neg (by omega), if_pos (by omega)]) (Ext.refl _)
  by_cases hl0 : b.length = 0
  · go_enter Tryz.func9, Tryz.ntmps9
    go_wp2
    go_ret2
    exact RStmts.none (by unfold stmtsS; rw [if_neg (by omega), if_neg (by omega), if_pos hl0]) (Ext.refl _)
  have hG' := hG (by omega) (by omega)
  have hS : stmtsS F d p0 b = (allS (sweepS F b.length p0 b) p0, 0) := by
    unfold stmtsS
    rw [if_neg (by omega), if_neg (by omega), if_neg hl0]
  have hSL := sweepS_len F b.length p0 b
  rw [hS]
  generalize hSW : sweepS F b.length p0 b = SW at *
  have HSW := Lib.hid hSW; clear hSW hS hG
  go_enter Tryz.func9, Tryz.ntmps9
  go_wp2_with (go_at_call 16; refine (sweep_any d F w0 HF.out p0 b _ w h0 HB.out (by omega) (by omega)).mono ?_; rw [HSW.out]; rintro e w1 ⟨A1, c1, L, hL, rfl, P1, E1⟩)
  have hL1 : 0 < L.length := by
    obtain ⟨f', _, hc⟩ := sweepS_cons F b.length p0 b (by omega) (Nat.le_refl _)
    rw [HSW.out] at hc
    have := congrArg List.length hL
    rw [hc] at this
    simp at this
    omega
  have hLn : L.length = SW.length := by have := congrArg List.length hL; simpa using this
  obtain ⟨g, cur, rfl, hg⟩ : ∃ g cur, A1 = some ⟨g, 0, none⟩ ∧ w.heap.size ≤ g := by
    rcases P1.row.2 with ⟨hv, _⟩ | ⟨g, cap, cur, hv, hg, _⟩
    · injection hv with _ h _; omega
    · injection hv with h _ _; exact ⟨g, cur, h, hg⟩
  have hgl : g < w1.heap.size := (World.ownsRow.lt P1.row g rfl).2
  have HP1 := Lib.hid P1; clear P1
  have HL := Lib.hid hL; clear hL
  have HG := Lib.hid hG'; clear hG'
  have hLb : L.length ≤ 65536 := by omega
  have HLN := Lib.hid hLn; clear hLn
  go_loopw [45] (fun i wr => ∃ k sz, k ≤ L.length ∧ i = .int .i64 (k : Nat) ∧ Ext w1 wr ∧ w1.heap.size + 2 ≤ wr.heap.size ∧ Marks wr w1.heap.size k (wantB (SW.take k)) sz ∧ Marks wr (w1.heap.size + 1) 0 (markB []) 0) (fun i _ => L.length - (intOf i).toNat)
  case atStart => exact ⟨0, 0, by omega, rfl, ((Ext.refl _).alloc _).alloc _, by simp, (Marks.made w1).ext ((Ext.refl _).alloc _), by have h := Marks.made (w1.alloc (.map #[] 0)); rw [show (fun _ : Int => false) = markB [] from by funext y; simp [markB]] at h; simpa using h⟩
  case round =>
    obtain ⟨k, sz, hk, rfl, E2, hsz, M1, M2⟩ := hrel
    by_cases hlt : k < L.length
    · obtain ⟨x, hx⟩ : ∃ x, L[k]? = some x := ⟨_, List.getElem?_eq_getElem hlt⟩
      have hgr : g < wr.heap.size := by omega
      have HM1 := Lib.hid M1; have HM2 := Lib.hid M2; clear M1 M2
      obtain ⟨x0, x1, x2, x3, x4, x5, x6⟩ := piece_cells (HP1.out.ext E2).row hx
      have hB := (Blk.new wr #[.string ⟨#[]⟩, .bool false, .string x.p.op, x.v, .int .i64 x.at_, .int .i64 x.p.size, .int .i64 x.p.tgt] 50)
      have HX := Lib.hid hx; clear hx
      obtain ⟨vx, ax, ⟨ox, lx, sx, tx⟩⟩ := x
      simp only at x0 x1 x2 x3 x4 x5 x6 hB
      have hA := HP1.out.args _ (List.mem_of_getElem? HX.out)
      simp only at hA
      obtain ⟨Ax, cx, hv⟩ := hA.slice
      clear hA
      subst hv
      go_upto_region 15 with fail
      have hpk : SW[k]? = some (ax, ⟨ox, lx, sx, tx⟩) := by rw [← HL.out, List.getElem?_map, HX.out]; rfl
      have hgd := HG.out _ (List.mem_of_getElem? hpk)
      have htx : i64ok tx := ⟨by have := hgd.t0; simp at this; omega, by have := hgd.t1; simp at this; omega⟩
      obtain ⟨wm, hrun, M1', hgrow⟩ := ((HM1.out.ext ((Ext.refl _).alloc _)) : Marks (wr.alloc (.cells #[.string ⟨#[]⟩, .bool false, .string ox, .slice Ax lx.length cx, .int .i64 ax, .int .i64 sx, .int .i64 tx] 50)) _ _ _ _).update (by omega) htx
      have HPK := Lib.hid hpk; clear hpk
      clear hgd
      have HM1' := Lib.hid M1'; clear M1'
      have HGR := Lib.hid hgrow; clear hgrow
      go_wp2
      have hx2 : Ext w1 wm := ext_grown (E2.alloc _) HGR.out (fun j hj => by injection hj with hj; omega)
      have hM2 := (HM2.out.ext ((Ext.refl _).alloc _)).grown HGR.out (by simp)
      have hM1 := HM1'.out
      have htk : SW.take (k + 1) = SW.take k ++ [(ax, ⟨ox, lx, sx, tx⟩)] := by rw [List.take_add_one, HPK.out]; rfl
      have hsz2 : w1.heap.size + 2 ≤ wm.heap.size := by have := HGR.out.size; simp at this; omega
      rw [wantB_snoc (SW.take k) (ax, ⟨ox, lx, sx, tx⟩), ← htk] at hM1
      obtain ⟨sz', hM1'⟩ : ∃ s, Marks wm w1.heap.size (k + 1) (wantB (SW.take (k + 1))) s := ⟨_, hM1⟩
      refine ⟨⟨k + 1, sz', by omega, by go_num, hx2, hsz2, hM1', hM2⟩, by simp [intOf]; omega⟩
    · obtain rfl : k = L.length := by omega
      have hE0 := E2
      have HM1 := Lib.hid M1; have HM2 := Lib.hid M2; clear M1 M2
      go_wp2
      have hWT : wantB (SW.take L.length) = wantB SW := by rw [HLN.out, List.take_length]
      rw [hWT] at HM1
      generalize hW : wantB SW = W at *
      have HW := Lib.hid hW; clear hW hWT
      clear hlt hk
      go_loopw [55] (fun i wr => ∃ k, k ≤ L.length ∧ i = .int .i64 (k : Nat) ∧ Ext w1 wr ∧ w1.heap.size + 2 ≤ wr.heap.size ∧ Marks wr w1.heap.size L.length W sz ∧ Marks wr (w1.heap.size + 1) k (markB (markL W (SW.take k))) (markL W (SW.take k)).length) (fun i _ => L.length - (intOf i).toNat)
      case atStart => exact ⟨0, by omega, rfl, E2, hsz, HM1.out, HM2.out⟩
      case round =>
        clear E2 hsz HM1 HM2 hE0
        obtain ⟨k, hk, rfl, E2, hsz, M1, M2⟩ := hrel
        by_cases hlt : k < L.length
        · obtain ⟨x, hx⟩ : ∃ x, L[k]? = some x := ⟨_, List.getElem?_eq_getElem hlt⟩
          have hgr : g < wr.heap.size := by omega
          have HM1 := Lib.hid M1; have HM2 := Lib.hid M2; clear M1 M2
          obtain ⟨x0, x1, x2, x3, x4, x5, x6⟩ := piece_cells (HP1.out.ext E2).row hx
          have hB := (Blk.new wr #[.string ⟨#[]⟩, .bool false, .string x.p.op, x.v, .int .i64 x.at_, .int .i64 x.p.size, .int .i64 x.p.tgt] 50)
          have HX := Lib.hid hx; clear hx
          obtain ⟨vx, ax, ⟨ox, lx, sx, tx⟩⟩ := x
          simp only at x0 x1 x2 x3 x4 x5 x6 hB
          have hA := HP1.out.args _ (List.mem_of_getElem? HX.out)
          simp only at hA
          obtain ⟨Ax, cx, hv⟩ := hA.slice
          clear hA
          subst hv
          have hpk : SW[k]? = some (ax, ⟨ox, lx, sx, tx⟩) := by rw [← HL.out, List.getElem?_map, HX.out]; rfl
          have hgd := HG.out _ (List.mem_of_getElem? hpk)
          have hax : i64ok ax := ⟨by have := hgd.a0; simp at this; omega, by have := hgd.a1; simp at this; omega⟩
          have M1' := ((HM1.out.ext ((Ext.refl _).alloc _)) : Marks (wr.alloc (.cells #[.string ⟨#[]⟩, .bool false, .string ox, .slice Ax lx.length cx, .int .i64 ax, .int .i64 sx, .int .i64 tx] 50)) _ _ _ _)
          have M2' := ((HM2.out.ext ((Ext.refl _).alloc _)) : Marks (wr.alloc (.cells #[.string ⟨#[]⟩, .bool false, .string ox, .slice Ax lx.length cx, .int .i64 ax, .int .i64 sx, .int .i64 tx] 50)) _ _ _ _)
          have hlook := M1'.look hax
          have hlen := M2'.len 3
          have htk : SW.take (k + 1) = SW.take k ++ [(ax, ⟨ox, lx, sx, tx⟩)] := by rw [List.take_add_one, hpk]; rfl
          have hmk : markL W (SW.take (k + 1)) = markStep W (markL W (SW.take k)) (ax, ⟨ox, lx, sx, tx⟩) := by rw [htk, markL_snoc]
          generalize hacc : markL W (SW.take k) = acc at *
          have HPK := Lib.hid hpk; have HTK := Lib.hid htk; have HMK := Lib.hid hmk; have HACC := Lib.hid hacc
          have HM1' := Lib.hid M1'
          have HM2' := Lib.hid M2'
          clear hpk htk hmk hacc hgd M1' M2'
          rcases Bool.eq_false_or_eq_true (W ax) with hwa | hwa
          · by_cases hac : acc.length < 1000
            · obtain ⟨wm, hrun, M2u, hgrow⟩ := HM2'.out.update (by omega) hax
              have HM2u := Lib.hid M2u; have HGR := Lib.hid hgrow; clear M2u hgrow
              go_wp2
              have hx2 : Ext w1 wm := ext_grown (E2.alloc _) HGR.out (fun j hj => by injection hj with hj; omega)
              have hsz2 : w1.heap.size + 2 ≤ wm.heap.size := by have := HGR.out.size; simp at this; omega
              refine ⟨⟨k + 1, by omega, by go_num, hx2, hsz2, HM1'.out.grown HGR.out (by simp), ?_⟩, by simp [intOf]; omega⟩
              have hM := HM2u.out
              rw [HMK.out, markStep, if_pos ⟨hwa, hac⟩, ← (markB_step acc ax).2, ← (markB_step acc ax).1]
              exact hM
            · go_wp2
              have hM := HM2'.out
              have hE3 : Ext w1 _ := E2.alloc (.cells #[.string ⟨#[]⟩, .bool false, .string ox, .slice Ax lx.length cx, .int .i64 ax, .int .i64 sx, .int .i64 tx] 50)
              refine ⟨⟨k + 1, by omega, by go_num, hE3, by simp; omega, HM1'.out, ?_⟩, by simp [intOf]; omega⟩
              rw [HMK.out, markStep, if_neg (fun h => hac h.2)]
              obtain ⟨D, h1, h2⟩ := hM
              exact ⟨D, h1.mono (by omega), h2⟩
          · go_wp2
            have hM := HM2'.out
            have hE3 : Ext w1 _ := E2.alloc (.cells #[.string ⟨#[]⟩, .bool false, .string ox, .slice Ax lx.length cx, .int .i64 ax, .int .i64 sx, .int .i64 tx] 50)
            refine ⟨⟨k + 1, by omega, by go_num, hE3, by simp; omega, HM1'.out, ?_⟩, by simp [intOf]; omega⟩
            rw [HMK.out, markStep, if_neg (fun h => by rw [hwa] at h; cases h.1)]
            obtain ⟨D, h1, h2⟩ := hM
            exact ⟨D, h1.mono (by omega), h2⟩
        · obtain rfl : k = L.length := by omega
          have HM1 := Lib.hid M1; have HM2 := Lib.hid M2; clear M1 M2
          have hMT : markL W (SW.take L.length) = markL W SW := by rw [HLN.out, List.take_length]
          rw [hMT] at HM2
          generalize hM : markL W SW = acc at *
          have HMK := Lib.hid hM; clear hM hMT
          clear hlt hk
          go_wp2_with (first
            | (go_at_call 18; refine (operand_any _ _ _).mono ?_; rw [show operandS ⟨#[110]⟩ p0 = numA false p0 from rfl]; rintro e w4 ⟨rfl, hx4⟩)
            | (go_at_call 17; refine (stmt_any _ _ _ _ _).mono ?_; rintro e w5 ⟨rfl, hx5⟩)
            | (at_builtin; refine wpList_append_own_at _ rfl _ _ _ rfl (w4.heap.size + 1) 31 i1 _ 4 64 Tryz.underlying24 hi0 hz0 hz1 hz2 rfl (by omega) (.slice none 0 0) 0 [] (by rfl) (World.ownsRow_nil _ _ _ _) ⟨w5.heap.size, 0, none⟩ 1 1 [.string ⟨#[]⟩, .bool false, .string ⟨#[79, 82, 71]⟩, .slice (some ⟨w4.heap.size, 0, none⟩) 1 1] (by rfl) (by rfl) (World.news_of_block (cs := #[.string ⟨#[]⟩, .bool false, .string ⟨#[79, 82, 71]⟩, .slice (some ⟨w4.heap.size, 0, none⟩) 1 1]) (t := 31) (fr := (0, 0)) (heap_alloc_new _ _)) (by simp [Value.oneCell']) (by unfold maxLen; omega) (by omega) (by have := hx5.size; simp at this ⊢; omega) ?_; intro v6 w6 hown6 hgrow6 _ _))
          have E6 : Ext w4 w6 := ext_grown ((((Ext.refl w4).alloc _).trans hx5).alloc _) hgrow6 (by simp [Value.ownBlock])
          have E16 : Ext w1 w6 := (E2.trans hx4).trans E6
          have A6 : Args w6 w.heap.size (.slice (some ⟨w4.heap.size, 0, none⟩) 1 1) [numA false p0] := by
            have h := (Args.one w4 w4.heap.size _ rfl (Nat.le_refl _) (numA false p0) #[.string (numA false p0).word, .string ⟨#[]⟩, .bool false, .bool (numA false p0).mem, .string (numA false p0).op, .int .u16 (numA false p0).n, .string (numA false p0).name, .slice none 0 0] rfl).ext (ext_grown (hx5.alloc _) hgrow6 (by simp [Value.ownBlock]))
            exact h.mono (by have := E1.size; have := E2.size; have := hx4.size; omega)
          have HST := Lib.hid (show ∀ x ∈ L, ∀ j, x.v.ownBlock = some j → w.heap.size ≤ j ∧ j < w1.heap.size from fun x hx j hj => (HP1.out.args x hx).lt j hj)
          have hs4 : w1.heap.size + 2 ≤ w4.heap.size := by have := hx4.size; omega
          have hs6 : w4.heap.size + 1 ≤ w6.heap.size := by have := hx5.size; have := hgrow6.size; simp at *; omega
          have M6 := HM2.out.ext (hx4.trans E6)
          have R6 := (HP1.out.ext E16).row
          have EW6 : Ext w w6 := E1.trans E16
          have ST6 : StSt w w1 w4 L g c1 acc p0 0 v6 w6 := ⟨EW6, hs6, R6, M6, hown6, A6, fun i x hx => by rw [if_neg (by omega)]; exact (HP1.out.ext E16).args x (List.mem_of_getElem? hx)⟩
          clear hx5 hgrow6 HM1 HM2 hsz E2 hx4 E16 M6 R6 EW6 hown6 A6 hs6 E6
          have HST6 := Lib.hid ST6; clear ST6
          go_loopw [6, 82] (fun vo i wr => ∃ k, k ≤ L.length ∧ i = .int .i64 (k : Nat) ∧ StSt w w1 w4 L g c1 acc p0 k vo wr) (fun _ i _ => L.length - (intOf i).toNat)
          case atStart => exact ⟨0, by omega, rfl, HST6.out⟩
          case round =>
            clear HST6
            obtain ⟨k, hk, rfl, S3⟩ := hrel
            obtain ⟨Ao, co, rfl⟩ := own_slice S3.O
            have HVO := Lib.hid (World.ownsRow.lt S3.O)
            have HST3 := Lib.hid S3; clear S3
            have hsz := HST3.out.sz
            by_cases hlt : k < L.length
            · obtain ⟨x, hx⟩ : ∃ x, L[k]? = some x := ⟨_, List.getElem?_eq_getElem hlt⟩
              have hgr : g < wr.heap.size := by omega
              obtain ⟨x0, x1, x2, x3, x4, x5, x6⟩ := piece_cells HST3.out.R hx
              have HX := Lib.hid hx; clear hx
              obtain ⟨vx, ax, ⟨ox, lx, sx, tx⟩⟩ := x
              simp only at x0 x1 x2 x3 x4 x5 x6
              have hA := HP1.out.args _ (List.mem_of_getElem? HX.out)
              have hAk := HST3.out.AA k _ HX.out
              rw [if_neg (Nat.lt_irrefl k)] at hAk
              simp only at hA hAk
              obtain ⟨Ax, cx, hv⟩ := hA.slice
              clear hA
              subst hv
              have hpk : SW[k]? = some (ax, ⟨ox, lx, sx, tx⟩) := by rw [← HL.out, List.getElem?_map, HX.out]; rfl
              have hgd := HG.out _ (List.mem_of_getElem? hpk)
              have hax : i64ok ax := ⟨by have := hgd.a0; simp at this; omega, by have := hgd.a1; simp at this; omega⟩
              have htx : i64ok tx := ⟨by have := hgd.t0; simp at this; omega, by have := hgd.t1; simp at this; omega⟩
              have hmg : ∀ y, markB acc y = true → 0 ≤ y ∧ y ≤ 65535 := fun y hy => by
                rw [← HMK.out] at hy
                exact marked_ge HG.out hy
              have hlx : markB acc tx = true → 0 < lx.length := fun h => by have := hgd.n0; simp at this; exact this (hmg tx h).1
              have HMG := Lib.hid hmg
              have hrow : ∀ b, (Value.slice Ao (k + 1) co).ownBlock = some b → ¬ (Value.slice Ax lx.length cx).ownBlock = some b := fun b hb e => by
                have h1 := (HVO.out b hb).1
                have h2 := (HST.out _ (List.mem_of_getElem? HX.out) b e).2
                omega
              have hrow2 : ¬ (Value.slice Ax lx.length cx).ownBlock = some (w1.heap.size + 1) := fun e => by
                have h2 := (HST.out _ (List.mem_of_getElem? HX.out) _ e).2
                omega
              have HHH := Lib.hid (And.intro hpk (And.intro hgd (And.intro trivial (And.intro hAk trivial))))
              clear hpk hgd hAk
              have M1' := ((HST3.out.M.ext ((Ext.refl _).alloc _)) : Marks (wr.alloc (.cells #[.string ⟨#[]⟩, .bool false, .string ox, .slice Ax lx.length cx, .int .i64 ax, .int .i64 sx, .int .i64 tx] 50)) _ _ _ _)
              have hlook := M1'.look htx
              have HM1' := Lib.hid M1'; clear M1'
              rcases Bool.eq_false_or_eq_true (markB acc tx) with mt | mt
              · have hlx0 := hlx mt
                obtain ⟨gA, rfl, hgA0, hgA1⟩ : ∃ gA, Ax = some ⟨gA, 0, none⟩ ∧ w.heap.size ≤ gA ∧ gA < w1.heap.size := by
                  rcases HHH.out.2.2.2.1.2 with ⟨hv, _⟩ | ⟨gA, cap, cur, hv, hg, _⟩
                  · injection hv with _ h _; omega
                  · injection hv with h _ _
                    exact ⟨gA, h, HST.out _ (List.mem_of_getElem? HX.out) gA (by rw [h]; rfl)⟩
                have hlmt := hmg tx mt
                clear hmg hlx
                have hgA2 : gA < wr.heap.size := by omega
                obtain ⟨ca, fa, curA, hcur, hcsz, hlast⟩ := Args.last (HHH.out.2.2.2.1) rfl hlx0 (nameA (labelS tx))
                have HLAST := Lib.hid hlast; have HCUR := Lib.hid hcur
                clear hlast hcur
                generalize hln : lx.length = ln at *
                obtain ⟨n1, rfl⟩ : ∃ n1, ln = n1 + 1 := ⟨ln - 1, by omega⟩
                have HLN1 := Lib.hid hln; clear hln
                simp only [Nat.add_sub_cancel] at ca
                have HTH := Lib.hid (show ∀ W, Ext wr W → (∃ u, W.cell? ⟨gA, n1 * 8, none⟩ = some u) ∧ (∃ u, W.cell? ⟨gA, n1 * 8 + 1, none⟩ = some u) ∧ (∃ u, W.cell? ⟨gA, n1 * 8 + 2, none⟩ = some u) ∧ (∃ u, W.cell? ⟨gA, n1 * 8 + 3, none⟩ = some u) ∧ (∃ u, W.cell? ⟨gA, n1 * 8 + 4, none⟩ = some u) ∧ (∃ u, W.cell? ⟨gA, n1 * 8 + 5, none⟩ = some u) ∧ (∃ u, W.cell? ⟨gA, n1 * 8 + 6, none⟩ = some u) ∧ (∃ u, W.cell? ⟨gA, n1 * 8 + 7, none⟩ = some u) ∧ (∀ j, W.frozen? ⟨gA, j, none⟩ = false) from fun W hx => by
                  have key : ∀ j, j < 8 → ∃ u, W.cell? ⟨gA, n1 * 8 + j, none⟩ = some u := fun j hj => by
                    obtain ⟨u, hu⟩ := ca j hj
                    exact ⟨u, hx.cell hu⟩
                  exact ⟨key 0 (by omega), key 1 (by omega), key 2 (by omega), key 3 (by omega), key 4 (by omega), key 5 (by omega), key 6 (by omega), key 7 (by omega), fun j => (hx.rules.2 gA _ hgA2).trans (fa _)⟩)
                clear ca fa
                have hwi : IntKind.i64.wrap (((n1 + 1 : Nat) : Int) - 1) = (n1 : Int) := by
                  have hle : n1 + 1 ≤ 1000 := by have := HHH.out.2.1.n1; simp only at this; rw [HLN1.out] at this; exact this
                  rw [IntKind.wrap_i64]; omega
                have hle : n1 + 1 ≤ 1000 := by have := HHH.out.2.1.n1; simp only at this; rw [HLN1.out] at this; exact this
                have hw2 : IntKind.i64.wrap (n1 : Int) = (n1 : Int) := by rw [IntKind.wrap_i64]; omega
                have hb0 : (0 : Int) ≤ (n1 : Int) := by omega
                have hb1 : (n1 : Int) < (n1 : Int) + 1 := by omega
                go_wp2_with fail
                go_region_held3 (fun W => W.cell? ⟨wr.heap.size, 3, none⟩ = some (.slice (some ⟨gA, 0, none⟩) (n1 + 1) cx) ∧ W.cell? ⟨wr.heap.size, 6, none⟩ = some (.int .i64 tx)) (first | (with_reducible exact ⟨s3, s6⟩) | (with_reducible exact ⟨hxa.cell (by simp), hxa.cell (by simp)⟩) | (with_reducible exact ⟨by simp, by simp⟩))
                  (first
                   | (go_at_call 19; refine (label_any tx hlmt.1 hlmt.2 _).mono ?_; rintro e w7 ⟨rfl, hxa⟩; have hx7 : Ext wr w7 := (((Ext.refl wr).alloc _).drew).trans hxa; obtain ⟨⟨u0, d0⟩, ⟨u1, d1⟩, ⟨u2, d2⟩, ⟨u3, d3⟩, ⟨u4, d4⟩, ⟨u5, d5⟩, ⟨u6, d6⟩, ⟨u7, d7⟩, fd⟩ := HTH.out w7 hx7; obtain ⟨e1, e2, e3, e4, e5, e6, e7⟩ := put8 w7 gA (n1 * 8) d0 d1 d2 d3 d4 d5 d6 d7 (.string ⟨#[]⟩) (.string ⟨#[]⟩) (.bool false) (.bool false) (.string ⟨#[110]⟩) (.int .u16 0) (.string (labelS tx)) (.slice none 0 0); clear d1 d2 d3 d4 d5 d6 d7; have s30 : w7.cell? ⟨wr.heap.size, 3, none⟩ = some (.slice (some ⟨gA, 0, none⟩) (n1 + 1) cx) := hxa.cell (by simp); have s60 : w7.cell? ⟨wr.heap.size, 6, none⟩ = some (.int .i64 tx) := hxa.cell (by simp); have s3 := (put8_other w7 gA (n1 * 8) ⟨wr.heap.size, 3, none⟩ (Nat.ne_of_gt hgA2) (.string ⟨#[]⟩) (.string ⟨#[]⟩) (.bool false) (.bool false) (.string ⟨#[110]⟩) (.int .u16 0) (.string (labelS tx)) (.slice none 0 0)).trans s30; have s6 := (put8_other w7 gA (n1 * 8) ⟨wr.heap.size, 6, none⟩ (Nat.ne_of_gt hgA2) (.string ⟨#[]⟩) (.string ⟨#[]⟩) (.bool false) (.bool false) (.string ⟨#[110]⟩) (.int .u16 0) (.string (labelS tx)) (.slice none 0 0)).trans s60))
                obtain ⟨w8, hW8, hA8, hg8, hb8⟩ := Args.last_done HHH.out.2.2.2.1 HLN1.out (nameA (labelS tx)) hx7
                have hB8 : Blk w8 wr.heap.size #[.string ⟨#[]⟩, .bool false, .string ox, .slice (some ⟨gA, 0, none⟩) (n1 + 1) cx, .int .i64 ax, .int .i64 sx, .int .i64 tx] := hb8 _ _ (Nat.ne_of_gt hgA2) ((Blk.new wr _ 50).drew.ext hxa)
                simp only [nameA] at hW8
                rw [← hW8]
                clear hW8 hb8 d0 e1 e2 e3 e4 e5 e6 e7 s30 s60 s3 s6 fd hxa hx7
                have T8 : Tr (fun b => (Value.slice (some ⟨gA, 0, none⟩) (n1 + 1) cx).ownBlock = some b) wr w8 := Tr.of_grown hg8 (fun b hb => hb)
                have M8 := T8.marks HST3.out.M hrow2
                have hA8 : Args w8 w.heap.size (.slice (some ⟨gA, 0, none⟩) (n1 + 1) cx) (newArgs (markB acc) (ax, ⟨ox, lx, sx, tx⟩)) := by unfold newArgs; rw [if_pos mt]; exact hA8
                rcases Bool.eq_false_or_eq_true (markB acc ax) with ma | ma
                · have hlma := HMG.out ax ma
                  have O8 := T8.own HST3.out.O hrow
                  have hla := M8.look hax
                  have k8 := hB8.cell
                  have f8 := hB8.frozen
                  have lt8 := hB8.lt
                  have HM8 := Lib.hid M8; clear M8
                  have HO8 := Lib.hid O8; clear O8
                  go_wp2_with (first
                    | (go_at_call 19; refine (label_any ax hlma.1 hlma.2 _).mono ?_; rintro e w9 ⟨rfl, hx9⟩; have hB9 := hB8.ext hx9; have k9 := hB9.cell; have f9 := hB9.frozen; have lt9 := hB9.lt; have hB9b := (hB9.put 0 (.string (labelS ax))).put 1 (.bool true); have k9b := hB9b.cell; have T9 : Tr (fun b => b = wr.heap.size ∨ (Value.slice Ao (k + 1) co).ownBlock = some b) w8 ((w9.setCell ⟨wr.heap.size, 0, none⟩ (.string (labelS ax))).setCell ⟨wr.heap.size, 1, none⟩ (.bool true)) := ((Tr.of_ext (B := fun b => b = wr.heap.size ∨ (Value.slice Ao (k + 1) co).ownBlock = some b) hx9).set (B := fun b => b = wr.heap.size ∨ (Value.slice Ao (k + 1) co).ownBlock = some b) (a := ⟨wr.heap.size, 0, none⟩) (Or.inl rfl) _).set (B := fun b => b = wr.heap.size ∨ (Value.slice Ao (k + 1) co).ownBlock = some b) (a := ⟨wr.heap.size, 1, none⟩) (Or.inl rfl) _; have T9o : Tr (fun b => b = wr.heap.size) w8 ((w9.setCell ⟨wr.heap.size, 0, none⟩ (.string (labelS ax))).setCell ⟨wr.heap.size, 1, none⟩ (.bool true)) := ((Tr.of_ext (B := fun b => b = wr.heap.size) hx9).set (B := fun b => b = wr.heap.size) (a := ⟨wr.heap.size, 0, none⟩) rfl _).set (B := fun b => b = wr.heap.size) (a := ⟨wr.heap.size, 1, none⟩) rfl _; have HO9 := Lib.hid (T9o.own HO8.out (fun b hb e => by have := (HVO.out b hb).2; omega)); have HT9 := Lib.hid T9; clear T9 T9o; have hs9 : w4.heap.size + 1 ≤ w9.heap.size := by omega)
                    | (at_builtin; refine wpList_append_own_at _ rfl _ _ _ rfl (w4.heap.size + 1) 31 i1 _ 4 64 Tryz.underlying24 hi0 hz0 hz1 hz2 rfl (by omega) (.slice Ao (k + 1) co) (k + 1) _ (by rfl) (HO9.out.alloc _) ⟨w9.heap.size, 0, none⟩ 1 1 [.string (labelS ax), .bool true, .string ox, .slice (some ⟨gA, 0, none⟩) (n1 + 1) cx] (by rfl) (by rfl) (World.news_of_block (cs := #[.string (labelS ax), .bool true, .string ox, .slice (some ⟨gA, 0, none⟩) (n1 + 1) cx]) (t := 31) (fr := (0, 0)) (by have h := heap_alloc_new ((w9.setCell ⟨wr.heap.size, 0, none⟩ (.string (labelS ax))).setCell ⟨wr.heap.size, 1, none⟩ (.bool true)) (.cells #[.string (labelS ax), .bool true, .string ox, .slice (some ⟨gA, 0, none⟩) (n1 + 1) cx] 31); simpa using h)) (by simp [Value.oneCell']) (by unfold maxLen; omega) (by omega) (by simp; omega) ?_; intro v10 w10 hown10 hgrow10 _ hat10))
                  have T10 := (HT9.out.alloc _).trans (Tr.of_grown (B := fun b => b = wr.heap.size ∨ (Value.slice Ao (k + 1) co).ownBlock = some b) hgrow10 (fun b hb => .inr hb))
                  have hfin := HST3.out.round HX.out HP1.out E1 hs4 T8 hA8 T10 (by simpa [SL.cells, stS, ma, HLN1.out] using hown10)
                  exact ⟨⟨k + 1, by omega, by go_num, hfin⟩, by simp [intOf]; omega⟩
                · have O8 := T8.own HST3.out.O hrow
                  have hla := M8.look hax
                  have k8 := hB8.cell
                  have f8 := hB8.frozen
                  have lt8 := hB8.lt
                  have HM8 := Lib.hid M8; clear M8
                  have HO8 := Lib.hid O8; clear O8
                  go_wp2_with (at_builtin; refine wpList_append_own_at _ rfl _ _ _ rfl (w4.heap.size + 1) 31 i1 _ 4 64 Tryz.underlying24 hi0 hz0 hz1 hz2 rfl (by omega) (.slice Ao (k + 1) co) (k + 1) _ (by rfl) (HO8.out.alloc _) ⟨w8.heap.size, 0, none⟩ 1 1 [.string ⟨#[]⟩, .bool false, .string ox, .slice (some ⟨gA, 0, none⟩) (n1 + 1) cx] (by rfl) (by rfl) (World.news_of_block (cs := #[.string ⟨#[]⟩, .bool false, .string ox, .slice (some ⟨gA, 0, none⟩) (n1 + 1) cx]) (t := 31) (fr := (0, 0)) (by have h := heap_alloc_new w8 (.cells #[.string ⟨#[]⟩, .bool false, .string ox, .slice (some ⟨gA, 0, none⟩) (n1 + 1) cx] 31); simpa using h)) (by simp [Value.oneCell']) (by unfold maxLen; omega) (by omega) (by simp; omega) ?_; intro v10 w10 hown10 hgrow10 _ hat10)
                  have T10 := (Tr.of_ext (B := fun b => b = wr.heap.size ∨ (Value.slice Ao (k + 1) co).ownBlock = some b) ((Ext.refl w8).alloc (.cells #[.string ⟨#[]⟩, .bool false, .string ox, .slice (some ⟨gA, 0, none⟩) (n1 + 1) cx] 31))).trans (Tr.of_grown hgrow10 (fun b hb => .inr hb))
                  have hfin := HST3.out.round HX.out HP1.out E1 hs4 T8 hA8 T10 (by simpa [SL.cells, stS, ma, HLN1.out] using hown10)
                  exact ⟨⟨k + 1, by omega, by go_num, hfin⟩, by simp [intOf]; omega⟩
              · have T8 : Tr (fun b => (Value.slice Ax lx.length cx).ownBlock = some b) wr (wr.alloc (.cells #[.string ⟨#[]⟩, .bool false, .string ox, .slice Ax lx.length cx, .int .i64 ax, .int .i64 sx, .int .i64 tx] 50)) := Tr.of_ext ((Ext.refl _).alloc _)
                have hB8 := Blk.new wr #[.string ⟨#[]⟩, .bool false, .string ox, .slice Ax lx.length cx, .int .i64 ax, .int .i64 sx, .int .i64 tx] 50
                have hA8 : Args (wr.alloc (.cells #[.string ⟨#[]⟩, .bool false, .string ox, .slice Ax lx.length cx, .int .i64 ax, .int .i64 sx, .int .i64 tx] 50)) w.heap.size (.slice Ax lx.length cx) (newArgs (markB acc) (ax, ⟨ox, lx, sx, tx⟩)) := by unfold newArgs; rw [if_neg (by rw [mt]; simp)]; exact HHH.out.2.2.2.1.ext ((Ext.refl _).alloc _)
                have M8 := HM1'.out
                clear hmg hlx
                rcases Bool.eq_false_or_eq_true (markB acc ax) with ma | ma
                · have hlma := HMG.out ax ma
                  have O8 := T8.own HST3.out.O hrow
                  have hla := M8.look hax
                  have k8 := hB8.cell
                  have f8 := hB8.frozen
                  have lt8 := hB8.lt
                  have HM8 := Lib.hid M8; clear M8
                  have HO8 := Lib.hid O8; clear O8
                  go_wp2_with (first
                    | (go_at_call 19; refine (label_any ax hlma.1 hlma.2 _).mono ?_; rintro e w9 ⟨rfl, hx9⟩; have hB9 := hB8.ext hx9; have k9 := hB9.cell; have f9 := hB9.frozen; have lt9 := hB9.lt; have hB9b := (hB9.put 0 (.string (labelS ax))).put 1 (.bool true); have k9b := hB9b.cell; have T9 : Tr (fun b => b = wr.heap.size ∨ (Value.slice Ao (k + 1) co).ownBlock = some b) (wr.alloc (.cells #[.string ⟨#[]⟩, .bool false, .string ox, .slice Ax lx.length cx, .int .i64 ax, .int .i64 sx, .int .i64 tx] 50)) ((w9.setCell ⟨wr.heap.size, 0, none⟩ (.string (labelS ax))).setCell ⟨wr.heap.size, 1, none⟩ (.bool true)) := ((Tr.of_ext (B := fun b => b = wr.heap.size ∨ (Value.slice Ao (k + 1) co).ownBlock = some b) hx9).set (B := fun b => b = wr.heap.size ∨ (Value.slice Ao (k + 1) co).ownBlock = some b) (a := ⟨wr.heap.size, 0, none⟩) (Or.inl rfl) _).set (B := fun b => b = wr.heap.size ∨ (Value.slice Ao (k + 1) co).ownBlock = some b) (a := ⟨wr.heap.size, 1, none⟩) (Or.inl rfl) _; have T9o : Tr (fun b => b = wr.heap.size) (wr.alloc (.cells #[.string ⟨#[]⟩, .bool false, .string ox, .slice Ax lx.length cx, .int .i64 ax, .int .i64 sx, .int .i64 tx] 50)) ((w9.setCell ⟨wr.heap.size, 0, none⟩ (.string (labelS ax))).setCell ⟨wr.heap.size, 1, none⟩ (.bool true)) := ((Tr.of_ext (B := fun b => b = wr.heap.size) hx9).set (B := fun b => b = wr.heap.size) (a := ⟨wr.heap.size, 0, none⟩) rfl _).set (B := fun b => b = wr.heap.size) (a := ⟨wr.heap.size, 1, none⟩) rfl _; have HO9 := Lib.hid (T9o.own HO8.out (fun b hb e => by have := (HVO.out b hb).2; omega)); have HT9 := Lib.hid T9; clear T9 T9o; have hs9 : w4.heap.size + 1 ≤ w9.heap.size := by omega)
                    | (at_builtin; refine wpList_append_own_at _ rfl _ _ _ rfl (w4.heap.size + 1) 31 i1 _ 4 64 Tryz.underlying24 hi0 hz0 hz1 hz2 rfl (by omega) (.slice Ao (k + 1) co) (k + 1) _ (by rfl) (HO9.out.alloc _) ⟨w9.heap.size, 0, none⟩ 1 1 [.string (labelS ax), .bool true, .string ox, .slice Ax lx.length cx] (by rfl) (by rfl) (World.news_of_block (cs := #[.string (labelS ax), .bool true, .string ox, .slice Ax lx.length cx]) (t := 31) (fr := (0, 0)) (by have h := heap_alloc_new ((w9.setCell ⟨wr.heap.size, 0, none⟩ (.string (labelS ax))).setCell ⟨wr.heap.size, 1, none⟩ (.bool true)) (.cells #[.string (labelS ax), .bool true, .string ox, .slice Ax lx.length cx] 31); simpa using h)) (by simp [Value.oneCell']) (by unfold maxLen; omega) (by omega) (by simp; omega) ?_; intro v10 w10 hown10 hgrow10 _ hat10))
                  have T10 := (HT9.out.alloc _).trans (Tr.of_grown (B := fun b => b = wr.heap.size ∨ (Value.slice Ao (k + 1) co).ownBlock = some b) hgrow10 (fun b hb => .inr hb))
                  have hfin := HST3.out.round HX.out HP1.out E1 hs4 T8 hA8 T10 (by simpa [SL.cells, stS, ma, ma] using hown10)
                  exact ⟨⟨k + 1, by omega, by go_num, hfin⟩, by simp [intOf]; omega⟩
                · have O8 := T8.own HST3.out.O hrow
                  have hla := M8.look hax
                  have k8 := hB8.cell
                  have f8 := hB8.frozen
                  have lt8 := hB8.lt
                  have HM8 := Lib.hid M8; clear M8
                  have HO8 := Lib.hid O8; clear O8
                  go_wp2_with (at_builtin; refine wpList_append_own_at _ rfl _ _ _ rfl (w4.heap.size + 1) 31 i1 _ 4 64 Tryz.underlying24 hi0 hz0 hz1 hz2 rfl (by omega) (.slice Ao (k + 1) co) (k + 1) _ (by rfl) (HO8.out.alloc _) ⟨wr.heap.size + 1, 0, none⟩ 1 1 [.string ⟨#[]⟩, .bool false, .string ox, .slice Ax lx.length cx] (by rfl) (by rfl) (World.news_of_block (cs := #[.string ⟨#[]⟩, .bool false, .string ox, .slice Ax lx.length cx]) (t := 31) (fr := (0, 0)) (by have h := heap_alloc_new (wr.alloc (.cells #[.string ⟨#[]⟩, .bool false, .string ox, .slice Ax lx.length cx, .int .i64 ax, .int .i64 sx, .int .i64 tx] 50)) (.cells #[.string ⟨#[]⟩, .bool false, .string ox, .slice Ax lx.length cx] 31); simpa using h)) (by simp [Value.oneCell']) (by unfold maxLen; omega) (by omega) (by simp; omega) ?_; intro v10 w10 hown10 hgrow10 _ hat10)
                  have T10 := (Tr.of_ext (B := fun b => b = wr.heap.size ∨ (Value.slice Ao (k + 1) co).ownBlock = some b) ((Ext.refl (wr.alloc (.cells #[.string ⟨#[]⟩, .bool false, .string ox, .slice Ax lx.length cx, .int .i64 ax, .int .i64 sx, .int .i64 tx] 50))).alloc (.cells #[.string ⟨#[]⟩, .bool false, .string ox, .slice Ax lx.length cx] 31))).trans (Tr.of_grown hgrow10 (fun b hb => .inr hb))
                  have hfin := HST3.out.round HX.out HP1.out E1 hs4 T8 hA8 T10 (by simpa [SL.cells, stS, ma, ma] using hown10)
                  exact ⟨⟨k + 1, by omega, by go_num, hfin⟩, by simp [intOf]; omega⟩
            · obtain rfl : k = L.length := by omega
              go_wp2
              go_ret2
              have hmm : L.map (fun x : PL => stS (markB acc) (x.at_, x.p)) = SW.map (stS (markB acc)) := by rw [← HL.out, List.map_map]; rfl
              refine ⟨_, stPre L (markB acc) (.slice (some ⟨w4.heap.size, 0, none⟩) 1 1) p0 L.length, rfl, ?_, ⟨?_, ?_⟩, HST3.out.E⟩
              · simp only [stPre, List.map_cons, List.map_map, List.take_length, allS]
                rw [HW.out, HMK.out, ← hmm]; rfl
              · have h := own_mono HST3.out.O (show w.heap.size ≤ w4.heap.size + 1 by have := E1.size; omega)
                simpa [stPre] using h
              · intro y hy
                rcases List.mem_cons.1 hy with rfl | hy
                · exact HST3.out.A0
                · rw [List.take_length] at hy
                  obtain ⟨z, hz, rfl⟩ := List.mem_map.1 hy
                  obtain ⟨i, hi, hz2⟩ := List.getElem_of_mem hz
                  have h := HST3.out.AA i z (by rw [← hz2]; exact List.getElem?_eq_getElem hi)
                  rw [if_pos hi] at h
                  exact h
end

section
open Go.RowKit
set_option maxRecDepth 100000
set_option maxHeartbeats 4000000
set_option linter.unusedSimpArgs false
set_option linter.unusedVariables false

def wordsD (d o : Int) : List ByteArray := if d = 1 then formS o else wordsS o
def rstB (o : Int) : Bool := bits .and .u8 o 199 == 199
def F80 (d : Int) (_ : Int) (b : List Int) : Piece :=
  if (readS b).2.2.2 ≠ 0 then ⟨⟨#[68, 66]⟩, [numA false (b.getD 0 0)], 1, -1⟩
  else ⟨nameOf (wordsD d (readS b).1), if rstB (readS b).1 = true then [numA false (if d = 1 then (readS b).1 / 8 % 8 * 8 else (readS b).1 / 8 % 8)] else (wordsD d (readS b).1).tail.map (operandS · (readS b).2.1),
    (readS b).2.2.1, if jumpsB (readS b).1 = true then (readS b).2.1 else -1⟩

theorem readS_facts {b : List Int} (hr : ∀ x ∈ b, 0 ≤ x ∧ x ≤ 255) (hp : 0 < b.length) (hk : (readS b).2.2.2 = 0) :
    (readS b).1 = b.getD 0 0 ∧ (0 ≤ (readS b).1 ∧ (readS b).1 ≤ 255) ∧ (0 ≤ (readS b).2.1 ∧ (readS b).2.1 ≤ 65535) ∧ 1 ≤ (readS b).2.2.1 ∧ (readS b).2.2.1 ≤ b.length ∧ (readS b).2.2.1 = sizeL (wordsS (readS b).1) := by
  have r0 := getD_range hr 0
  have r1 := getD_range hr 1
  have r2 := getD_range hr 2
  have hs := sizeL_range (wordsS (b.getD 0 0))
  unfold readS at *
  rw [if_neg (by omega)] at *
  by_cases h1 : sizeL (wordsS (b.getD 0 0)) = 0
  · rw [if_pos h1] at hk; simp at hk
  · rw [if_neg h1] at *
    by_cases h2 : (b.length : Int) < sizeL (wordsS (b.getD 0 0))
    · rw [if_pos h2] at hk; simp at hk
    · rw [if_neg h2] at *
      refine ⟨rfl, r0, ?_, by simp only; omega, by simp only; omega, rfl⟩
      simp only
      split
      · omega
      · split <;> omega

theorem first80_any (d : Int) (hd : d = 0 ∨ d = 1) (p : Int) (b : List Int) (v : Value) (w : World) (hT : Tab w) (hb : Byts w v b) (hp : 0 < b.length) :
    Calls Tryz.prog 40 #[.int .i64 d, v] w (RPiece w (F80 d p b).op (F80 d p b).args (F80 d p b).size (F80 d p b).tgt) ∧ 1 ≤ (F80 d p b).size ∧ (F80 d p b).size ≤ b.length := by
  have hrg : ∀ x ∈ b, 0 ≤ x ∧ x ≤ 255 := by obtain ⟨_, _, _, _, _, h, _⟩ := hb; exact h
  by_cases hk : (readS b).2.2.2 = 0
  · obtain ⟨h1, h2, h3, h4, h5, _⟩ := readS_facts hrg hp hk
    rcases hR : readS b with ⟨o, n, size, k⟩
    rw [hR] at hk h1 h2 h3 h4 h5
    simp only at hk h1 h2 h3 h4 h5
    subst hk
    have hF : F80 d p b = ⟨nameOf (wordsD d o), if rstB o = true then [numA false (if d = 1 then o / 8 % 8 * 8 else o / 8 % 8)] else (wordsD d o).tail.map (operandS · n), size, if jumpsB o = true then n else -1⟩ := by
      unfold F80; rw [hR]; rfl
    rw [hF]
    refine ⟨?_, h4, h5⟩
    simp only
    rcases Bool.eq_false_or_eq_true (rstB o) with hrst | hrst
    · rw [if_pos hrst]
      rcases hd with rfl | rfl
      · exact first80_0r b v w hb hp o n size hR h2 h3 hrst _ rfl _ rfl trivial trivial
      · exact first80_1r b v w hb hp o n size hT hR h2 h3 hrst _ rfl _ rfl trivial trivial
    · rw [if_neg (by rw [hrst]; simp)]
      rcases hd with rfl | rfl
      · exact first80_0 b v w hb hp o n size hR h2 h3 hrst _ rfl _ rfl _ rfl (by rw [List.length_map]; rfl)
      · exact first80_1 b v w hb hp o n size hT hR h2 h3 hrst _ rfl _ rfl _ rfl (by rw [List.length_map]; rfl)
  · have hF : F80 d p b = ⟨⟨#[68, 66]⟩, [numA false (b.getD 0 0)], 1, -1⟩ := by unfold F80; rw [if_pos hk]
    rw [hF]
    exact ⟨first80_e d b v w hb hp hk, by simp, by simp; omega⟩

/-- disasm.Stmts in the 8080's mnemonics. -/
theorem stmts80_any (d : Int) (hd : d = 0 ∨ d = 1) (p0 : Int) (hp : i64ok p0) (b : List Int) (v : Value) (w : World) (hT : Tab w) (hb : Byts w v b) (hG : 0 ≤ p0 → p0 + b.length ≤ 65536 → ∀ x ∈ sweepS (F80 d) b.length p0 b, Good x) :
    Calls Tryz.prog 9 #[.int .i64 d, .int .i64 p0, v] w (RStmts w (stmtsS (F80 d) d p0 b)) := by
  refine stmts_any d (F80 d) w (fun p b v W hx hb hl _ _ => ?_) p0 hp b v w (Ext.refl w) hb hG
  have h := first80_any d hd p b v W (hT.ext hx) hb hl
  exact ⟨fun e => by omega, fun _ => h.1, h.2⟩
end
end Go.Proofs.YtnklmehphmidhaaGreatDoor
