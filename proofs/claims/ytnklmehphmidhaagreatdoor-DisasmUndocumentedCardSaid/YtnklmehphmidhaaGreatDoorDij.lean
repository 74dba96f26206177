/- disasm.Stmts: what it answers. -/
import Derived.Test.YtnklmehphmidhaaGreatDoorDii
namespace Go.Proofs.YtnklmehphmidhaaGreatDoor
open Go.RowKit
set_option maxRecDepth 100000
set_option maxHeartbeats 4000000
set_option linter.unusedSimpArgs false
set_option linter.unusedVariables false

/-- A statement. -/
structure SR where
  label : ByteArray
  colon : Bool
  op : ByteArray
  args : List AR
deriving DecidableEq
/-- A statement that lies in memory. -/
structure SL where
  v : Value
  s : SR
def SL.cells (x : SL) : List Value := [.string x.s.label, .bool x.s.colon, .string x.s.op, x.v]
theorem SL.cells_len (l : List SL) : (l.flatMap SL.cells).length = l.length * 4 := by
  induction l with
  | nil => rfl
  | cons a l ih => rw [List.flatMap_cons, List.length_append, ih]; simp [SL.cells]; omega

/-- v owns the statements L, each with operands of its own. -/
structure Sts (w : World) (base : Nat) (v : Value) (L : List SL) : Prop where
  row : w.ownsRow base 31 4 v L.length (L.flatMap SL.cells)
  args : ∀ x ∈ L, Args w base x.v x.s.args
theorem Sts.slice {w : World} {base : Nat} {v : Value} {L : List SL} (h : Sts w base v L) : ∃ A c, v = .slice A L.length c := by
  rcases h.row.2 with ⟨rfl, hn⟩ | ⟨g, cap, cur, rfl, _⟩
  · exact ⟨none, 0, by rw [hn]⟩
  · exact ⟨_, cap, rfl⟩
theorem Sts.ext {w w' : World} {base : Nat} {v : Value} {L : List SL} (h : Sts w base v L) (hx : Ext w w') : Sts w' base v L := by
  refine ⟨World.ownsRow.kept h.row (row := none) ⟨hx.os, hx.tape, hx.output, hx.size, fun i hi _ => Below.block hx i hi⟩ ?_, fun x hm => (h.args x hm).ext hx⟩
  cases v.ownBlock <;> simp

/-- It answers statements, and a kind. -/
def RStmts (w : World) (r : List SR × Int) : Ending → World → Prop := fun e w' => ∃ v L, e = .returned (.tuple #[v, .int .i64 r.2]) ∧ L.map (fun x : SL => x.s) = r.1 ∧ Sts w' w.heap.size v L ∧ Ext w w'
theorem RStmts.none {w w' : World} {r : List SR × Int} {k : Int} (hr : r = ([], k)) (hx : Ext w w') : RStmts w r (.returned (.tuple #[.slice none 0 0, .int .i64 k])) w' := by
  subst hr
  exact ⟨_, [], rfl, rfl, ⟨World.ownsRow_nil _ _ _ _, by simp⟩, hx⟩

def wantB (l : List (Int × Piece)) (x : Int) : Bool := l.any (fun p => x == p.2.tgt)
theorem wantB_snoc (l : List (Int × Piece)) (p : Int × Piece) : (fun y => y == p.2.tgt || wantB l y) = wantB (l ++ [p]) := by
  funext y
  simp [wantB, List.any_append, Bool.or_comm]
def markB (acc : List Int) (x : Int) : Bool := decide (x ∈ acc)
def markStep (W : Int → Bool) (acc : List Int) (p : Int × Piece) : List Int := if W p.1 = true ∧ acc.length < 1000 then (if markB acc p.1 = true then acc else acc ++ [p.1]) else acc
theorem markB_step (acc : List Int) (x : Int) : (fun y => y == x || markB acc y) = markB (if markB acc x = true then acc else acc ++ [x]) ∧ (if markB acc x = true then acc.length else acc.length + 1) = (if markB acc x = true then acc else acc ++ [x]).length := by
  constructor
  · funext y
    by_cases h : x ∈ acc
    · simp [markB, h]
      intro e; subst e; exact h
    · simp [markB, h, Bool.or_comm]
      rw [Bool.eq_iff_iff]; simp [or_comm]
  · split <;> simp
def markL (W : Int → Bool) (l : List (Int × Piece)) : List Int := l.foldl (markStep W) []
theorem markL_snoc (W : Int → Bool) (l : List (Int × Piece)) (p : Int × Piece) : markL W (l ++ [p]) = markStep W (markL W l) p := by simp [markL, List.foldl_append]
def nameA (s : ByteArray) : AR := ⟨⟨#[]⟩, false, ⟨#[110]⟩, 0, s⟩
/-- A piece's statement. -/
def newArgs (m : Int → Bool) (x : Int × Piece) : List AR := if m x.2.tgt = true then x.2.args.dropLast ++ [nameA (labelS x.2.tgt)] else x.2.args
def stS (m : Int → Bool) (x : Int × Piece) : SR := ⟨if m x.1 = true then labelS x.1 else ⟨#[]⟩, m x.1, x.2.op, newArgs m x⟩
def orgS (p : Int) : SR := ⟨⟨#[]⟩, false, ⟨#[79, 82, 71]⟩, [numA false p]⟩
def allS (l : List (Int × Piece)) (p : Int) : List SR := orgS p :: l.map (stS (markB (markL (wantB l) l)))
def stmtsS (F : Int → List Int → Piece) (d p : Int) (b : List Int) : List SR × Int :=
  if d < 0 ∨ d > 2 ∨ p < 0 then ([], 1)
  else if (b.length : Int) > 65536 ∨ p > 65536 - b.length then ([], 7)
  else if b.length = 0 then ([], 0)
  else (allS (sweepS F b.length p b) p, 0)

/-- Fit for what follows. -/
structure Good (x : Int × Piece) : Prop where
  a0 : 0 ≤ x.1
  a1 : x.1 ≤ 65535
  t0 : -1 ≤ x.2.tgt
  t1 : x.2.tgt ≤ 65535
  n0 : 0 ≤ x.2.tgt → 0 < x.2.args.length
  n1 : x.2.args.length ≤ 1000

theorem sweepS_len (F : Int → List Int → Piece) : ∀ (f : Nat) (p : Int) (b : List Int), (sweepS F f p b).length ≤ f
  | 0, _, _ => by simp [sweepS]
  | f + 1, p, b => by
    simp only [sweepS]
    split
    · simp
    · simp [sweepS_len F f]

theorem flatMap_at {α : Type} (f : α → List Value) (m : Nat) (hf : ∀ x, (f x).length = m) : ∀ (L : List α) (k j : Nat) (x : α), L[k]? = some x → j < m → (L.flatMap f)[k * m + j]? = (f x)[j]?
  | [], k, j, x, h, _ => by simp at h
  | a :: L, 0, j, x, h, hj => by
    simp at h; subst h
    rw [List.flatMap_cons, Nat.zero_mul, Nat.zero_add, List.getElem?_append_left (by rw [hf]; exact hj)]
  | a :: L, k + 1, j, x, h, hj => by
    rw [List.flatMap_cons, List.getElem?_append_right (by rw [hf, Nat.succ_mul]; omega), hf, show (k + 1) * m + j - m = k * m + j by rw [Nat.succ_mul]; omega]
    exact flatMap_at f m hf L k j x (by simpa using h) hj
theorem own_cell {w : World} {base e size n cap g : Nat} {xs : List Value} (h : w.ownsRow base e size (.slice (some ⟨g, 0, none⟩) n cap) n xs) {j : Nat} {u : Value} (hu : xs[j]? = some u) : w.cell? ⟨g, j, none⟩ = some u := by
  obtain ⟨h1, h2 | ⟨g', cap', cur, hv, _, hg, _, _, _, hx⟩⟩ := h
  · simp at h2
  · injection hv with e1 _ _
    injection e1 with e1
    injection e1 with e1
    subst e1
    have hlt : j < xs.length := by
      rcases Nat.lt_or_ge j xs.length with h | h
      · exact h
      · rw [List.getElem?_eq_none h] at hu; cases hu
    rw [← hx, List.getElem?_take_of_lt (by rw [← h1]; exact hlt)] at hu
    simp [World.cell?, hg]
    simpa using hu
/-- A piece's cells. -/
theorem piece_cells {w : World} {base cap g : Nat} {L : List PL} (h : w.ownsRow base 50 7 (.slice (some ⟨g, 0, none⟩) L.length cap) L.length (L.flatMap PL.cells)) {k : Nat} {x : PL} (hx : L[k]? = some x) :
    w.cell? ⟨g, k * 7, none⟩ = some (.string ⟨#[]⟩) ∧ w.cell? ⟨g, k * 7 + 1, none⟩ = some (.bool false) ∧ w.cell? ⟨g, k * 7 + 2, none⟩ = some (.string x.p.op) ∧ w.cell? ⟨g, k * 7 + 3, none⟩ = some x.v ∧ w.cell? ⟨g, k * 7 + 4, none⟩ = some (.int .i64 x.at_) ∧ w.cell? ⟨g, k * 7 + 5, none⟩ = some (.int .i64 x.p.size) ∧ w.cell? ⟨g, k * 7 + 6, none⟩ = some (.int .i64 x.p.tgt) := by
  have key : ∀ j u, j < 7 → (PL.cells x)[j]? = some u → w.cell? ⟨g, k * 7 + j, none⟩ = some u := fun j u hj hu => own_cell h (by rw [flatMap_at PL.cells 7 (fun _ => rfl) L k j x hx hj]; exact hu)
  exact ⟨key 0 _ (by omega) rfl, key 1 _ (by omega) rfl, key 2 _ (by omega) rfl, key 3 _ (by omega) rfl, key 4 _ (by omega) rfl, key 5 _ (by omega) rfl, key 6 _ (by omega) rfl⟩

theorem own_mono {w : World} {base base' e size n : Nat} {v : Value} {xs : List Value} (h : w.ownsRow base e size v n xs) (hb : base' ≤ base) : w.ownsRow base' e size v n xs := by
  obtain ⟨h1, h2⟩ := h
  refine ⟨h1, ?_⟩
  rcases h2 with h2 | ⟨g, cap, cur, hv, hg, r⟩
  · exact .inl h2
  · exact .inr ⟨g, cap, cur, hv, Nat.le_trans hb hg, r⟩
theorem markL_sub (W : Int → Bool) : ∀ (l : List (Int × Piece)) (acc : List Int) (y : Int), y ∈ l.foldl (markStep W) acc → y ∈ acc ∨ ∃ p ∈ l, p.1 = y
  | [], acc, y, h => .inl h
  | p :: l, acc, y, h => by
    rw [List.foldl_cons] at h
    rcases markL_sub W l _ y h with h | ⟨q, hq, e⟩
    · unfold markStep at h
      split at h
      · split at h
        · exact .inl h
        · rcases List.mem_append.1 h with h | h
          · exact .inl h
          · exact .inr ⟨p, by simp, by simpa using (List.mem_singleton.1 h).symm⟩
      · exact .inl h
    · exact .inr ⟨q, by simp [hq], e⟩
/-- A marked place is a place. -/
theorem marked_ge {W : Int → Bool} {l : List (Int × Piece)} (hG : ∀ x ∈ l, Good x) {y : Int} (h : markB (markL W l) y = true) : 0 ≤ y ∧ y ≤ 65535 := by
  have h' : y ∈ markL W l := by simpa [markB] using h
  rcases markL_sub W l [] y h' with h | ⟨p, hp, rfl⟩
  · simp at h
  · exact ⟨(hG p hp).a0, (hG p hp).a1⟩

/-- The last operand of a row of one's own is stored. -/
theorem Args.last {w : World} {base g n c : Nat} {l : List AR} (h : Args w base (.slice (some ⟨g, 0, none⟩) n c) l) (hn : l.length = n) (h0 : 0 < n) (a : AR) :
    (∀ j, j < 8 → ∃ u, w.cell? ⟨g, (n - 1) * 8 + j, none⟩ = some u) ∧ (∀ j, w.frozen? ⟨g, j, none⟩ = false) ∧
    ∃ cur, w.heap[g]? = some (.cells cur 41 (0, 0)) ∧ n * 8 ≤ cur.size ∧
      ∀ w' : World, w'.heap[g]? = some (.cells ((((((((cur.setIfInBounds ((n - 1) * 8) (.string a.word)).setIfInBounds ((n - 1) * 8 + 1) (.string ⟨#[]⟩)).setIfInBounds ((n - 1) * 8 + 2) (.bool false)).setIfInBounds ((n - 1) * 8 + 3) (.bool a.mem)).setIfInBounds ((n - 1) * 8 + 4) (.string a.op)).setIfInBounds ((n - 1) * 8 + 5) (.int .u16 a.n)).setIfInBounds ((n - 1) * 8 + 6) (.string a.name)).setIfInBounds ((n - 1) * 8 + 7) (.slice none 0 0)) 41 (0, 0)) →
        Args w' base (.slice (some ⟨g, 0, none⟩) n c) (l.dropLast ++ [a]) := by
  subst hn
  obtain ⟨h1, h2 | ⟨g', cap', cur, hv, hb, hg, hcap, hm, hs, hx⟩⟩ := h
  · simp at h2
  injection hv with e1 e2 e3
  injection e1 with e1
  injection e1 with e1
  subst e1; subst e3
  have hsz : l.length * 8 ≤ cur.size := by rw [hs]; exact Nat.mul_le_mul_right 8 hcap
  refine ⟨fun j hj => ?_, fun j => by simp [World.frozen?, hg], cur, hg, hsz, fun w' hw' => ?_⟩
  · refine ⟨cur[(l.length - 1) * 8 + j]'(by omega), ?_⟩
    simp only [World.cell?, hg]
    exact Array.getElem?_eq_getElem (by omega)
  · have hl : (l.dropLast ++ [a]).length = l.length := by simp; omega
    refine ⟨by rw [AR.cells_len, hl], .inr ⟨g, c, _, by rw [hl], hb, hw', by rw [hl]; exact hcap, hm, by simp [hs], ?_⟩⟩
    rw [hl]
    obtain ⟨l', b, rfl⟩ : ∃ l' b, l = l' ++ [b] := by
      rcases List.eq_nil_or_concat l with h | ⟨l', b, h⟩
      · subst h; simp at h0
      · exact ⟨l', b, by simpa using h⟩
    have hm8 : (l'.flatMap AR.cells).length = l'.length * 8 := AR.cells_len l'
    rw [List.dropLast_concat, List.flatMap_append] 
    rw [List.flatMap_append] at hx
    simp only [List.length_append, List.length_cons, List.length_nil, Nat.zero_add, Nat.add_sub_cancel] at hx hsz ⊢
    apply List.ext_getElem?
    intro i
    have hi := congrArg (·[i]?) hx
    simp only [List.getElem?_take] at hi ⊢
    by_cases h1 : i < l'.length * 8
    · rw [if_pos (by omega)] at hi ⊢
      rw [List.getElem?_append_left (by omega)] at hi ⊢
      rw [← hi]
      simp only [Array.getElem?_toList, Array.getElem?_setIfInBounds]
      repeat rw [if_neg (by omega)]
    · by_cases h2 : i < (l'.length + 1) * 8
      · rw [if_pos h2]
        rw [List.getElem?_append_right (by omega), hm8]
        simp only [Array.getElem?_toList, Array.getElem?_setIfInBounds, Array.size_setIfInBounds]
        obtain ⟨j, rfl⟩ : ∃ j, i = l'.length * 8 + j := ⟨i - l'.length * 8, by omega⟩
        have hj : j < 8 := by omega
        rcases (by omega : j = 0 ∨ j = 1 ∨ j = 2 ∨ j = 3 ∨ j = 4 ∨ j = 5 ∨ j = 6 ∨ j = 7) with rfl | rfl | rfl | rfl | rfl | rfl | rfl | rfl
        all_goals simp [AR.cells]
        all_goals omega
      · rw [if_neg h2, List.getElem?_eq_none (by rw [List.length_append, hm8]; simp [AR.cells]; omega)]

theorem put8 (w : World) (g m : Nat) {u0 u1 u2 u3 u4 u5 u6 u7 : Value} (c0 : w.cell? ⟨g, m, none⟩ = some u0) (c1 : w.cell? ⟨g, m + 1, none⟩ = some u1) (c2 : w.cell? ⟨g, m + 2, none⟩ = some u2) (c3 : w.cell? ⟨g, m + 3, none⟩ = some u3) (c4 : w.cell? ⟨g, m + 4, none⟩ = some u4) (c5 : w.cell? ⟨g, m + 5, none⟩ = some u5) (c6 : w.cell? ⟨g, m + 6, none⟩ = some u6) (c7 : w.cell? ⟨g, m + 7, none⟩ = some u7) (x0 x1 x2 x3 x4 x5 x6 x7 : Value) :
    (w.setCell ⟨g, m, none⟩ x0).cell? ⟨g, m + 1, none⟩ = some u1 ∧
    ((w.setCell ⟨g, m, none⟩ x0).setCell ⟨g, m + 1, none⟩ x1).cell? ⟨g, m + 2, none⟩ = some u2 ∧
    (((w.setCell ⟨g, m, none⟩ x0).setCell ⟨g, m + 1, none⟩ x1).setCell ⟨g, m + 2, none⟩ x2).cell? ⟨g, m + 3, none⟩ = some u3 ∧
    ((((w.setCell ⟨g, m, none⟩ x0).setCell ⟨g, m + 1, none⟩ x1).setCell ⟨g, m + 2, none⟩ x2).setCell ⟨g, m + 3, none⟩ x3).cell? ⟨g, m + 4, none⟩ = some u4 ∧
    (((((w.setCell ⟨g, m, none⟩ x0).setCell ⟨g, m + 1, none⟩ x1).setCell ⟨g, m + 2, none⟩ x2).setCell ⟨g, m + 3, none⟩ x3).setCell ⟨g, m + 4, none⟩ x4).cell? ⟨g, m + 5, none⟩ = some u5 ∧
    ((((((w.setCell ⟨g, m, none⟩ x0).setCell ⟨g, m + 1, none⟩ x1).setCell ⟨g, m + 2, none⟩ x2).setCell ⟨g, m + 3, none⟩ x3).setCell ⟨g, m + 4, none⟩ x4).setCell ⟨g, m + 5, none⟩ x5).cell? ⟨g, m + 6, none⟩ = some u6 ∧
    (((((((w.setCell ⟨g, m, none⟩ x0).setCell ⟨g, m + 1, none⟩ x1).setCell ⟨g, m + 2, none⟩ x2).setCell ⟨g, m + 3, none⟩ x3).setCell ⟨g, m + 4, none⟩ x4).setCell ⟨g, m + 5, none⟩ x5).setCell ⟨g, m + 6, none⟩ x6).cell? ⟨g, m + 7, none⟩ = some u7 := by
  exact ⟨(World.cell?_setCell_other _ _ _ _ (by simp)).trans (c1),
    (World.cell?_setCell_other _ _ _ _ (by simp)).trans ((World.cell?_setCell_other _ _ _ _ (by simp)).trans (c2)),
    (World.cell?_setCell_other _ _ _ _ (by simp)).trans ((World.cell?_setCell_other _ _ _ _ (by simp)).trans ((World.cell?_setCell_other _ _ _ _ (by simp)).trans (c3))),
    (World.cell?_setCell_other _ _ _ _ (by simp)).trans ((World.cell?_setCell_other _ _ _ _ (by simp)).trans ((World.cell?_setCell_other _ _ _ _ (by simp)).trans ((World.cell?_setCell_other _ _ _ _ (by simp)).trans (c4)))),
    (World.cell?_setCell_other _ _ _ _ (by simp)).trans ((World.cell?_setCell_other _ _ _ _ (by simp)).trans ((World.cell?_setCell_other _ _ _ _ (by simp)).trans ((World.cell?_setCell_other _ _ _ _ (by simp)).trans ((World.cell?_setCell_other _ _ _ _ (by simp)).trans (c5))))),
    (World.cell?_setCell_other _ _ _ _ (by simp)).trans ((World.cell?_setCell_other _ _ _ _ (by simp)).trans ((World.cell?_setCell_other _ _ _ _ (by simp)).trans ((World.cell?_setCell_other _ _ _ _ (by simp)).trans ((World.cell?_setCell_other _ _ _ _ (by simp)).trans ((World.cell?_setCell_other _ _ _ _ (by simp)).trans (c6)))))),
    (World.cell?_setCell_other _ _ _ _ (by simp)).trans ((World.cell?_setCell_other _ _ _ _ (by simp)).trans ((World.cell?_setCell_other _ _ _ _ (by simp)).trans ((World.cell?_setCell_other _ _ _ _ (by simp)).trans ((World.cell?_setCell_other _ _ _ _ (by simp)).trans ((World.cell?_setCell_other _ _ _ _ (by simp)).trans ((World.cell?_setCell_other _ _ _ _ (by simp)).trans (c7)))))))⟩

theorem put8_other (w : World) (g m : Nat) (a : Addr) (hne : a.block ≠ g) (x0 x1 x2 x3 x4 x5 x6 x7 : Value) :
    ((((((((w.setCell ⟨g, m, none⟩ x0).setCell ⟨g, m + 1, none⟩ x1).setCell ⟨g, m + 2, none⟩ x2).setCell ⟨g, m + 3, none⟩ x3).setCell ⟨g, m + 4, none⟩ x4).setCell ⟨g, m + 5, none⟩ x5).setCell ⟨g, m + 6, none⟩ x6).setCell ⟨g, m + 7, none⟩ x7).cell? a = w.cell? a :=
  (World.cell?_setCell_other _ _ _ _ (fun e => hne (by rw [← e]))).trans ((World.cell?_setCell_other _ _ _ _ (fun e => hne (by rw [← e]))).trans ((World.cell?_setCell_other _ _ _ _ (fun e => hne (by rw [← e]))).trans ((World.cell?_setCell_other _ _ _ _ (fun e => hne (by rw [← e]))).trans ((World.cell?_setCell_other _ _ _ _ (fun e => hne (by rw [← e]))).trans ((World.cell?_setCell_other _ _ _ _ (fun e => hne (by rw [← e]))).trans ((World.cell?_setCell_other _ _ _ _ (fun e => hne (by rw [← e]))).trans ((World.cell?_setCell_other _ _ _ _ (fun e => hne (by rw [← e]))).trans (rfl))))))))

theorem block_set {w : World} {g i : Nat} {cs : Array Value} {t : TypeId} {fr : Nat × Nat} (h : w.heap[g]? = some (.cells cs t fr)) (v : Value) : (w.setCell ⟨g, i, none⟩ v).heap[g]? = some (.cells (cs.setIfInBounds i v) t fr) := by
  simp [World.setCell, Array.getElem?_modify, h]
structure LastSt (w w7 : World) (g : Nat) (W : World) (cs : Array Value) : Prop where
  here : W.heap[g]? = some (.cells cs 41 (0, 0))
  grown : w.grownBy W (some g)
  blk : ∀ g' cs, g' ≠ g → Blk w7 g' cs → Blk W g' cs
theorem LastSt.step {w w7 : World} {g : Nat} {W : World} {cs : Array Value} (h : LastSt w w7 g W cs) (i : Nat) (v : Value) : LastSt w w7 g (W.setCell ⟨g, i, none⟩ v) (cs.setIfInBounds i v) := by
  refine ⟨block_set h.here v, ⟨h.grown.os, h.grown.tape, h.grown.output, by simpa using h.grown.size, fun j hj hne => ?_⟩, fun g' cs' hg' hb => Blk.other (h.blk g' cs' hg' hb) hg' v⟩
  have hne' : j ≠ g := fun e => hne (by rw [e])
  rw [Below.heap_setCell _ _ _ _ hne']
  exact h.grown.block j hj hne
theorem Args.last_done {w w7 : World} {base g n c : Nat} {l : List AR} (h : Args w base (.slice (some ⟨g, 0, none⟩) (n + 1) c) l) (hn : l.length = n + 1) (a : AR) (hx : Ext w w7) :
    ∃ W, W = ((((((((w7.setCell ⟨g, n * 8, none⟩ (.string a.word)).setCell ⟨g, n * 8 + 1, none⟩ (.string ⟨#[]⟩)).setCell ⟨g, n * 8 + 2, none⟩ (.bool false)).setCell ⟨g, n * 8 + 3, none⟩ (.bool a.mem)).setCell ⟨g, n * 8 + 4, none⟩ (.string a.op)).setCell ⟨g, n * 8 + 5, none⟩ (.int .u16 a.n)).setCell ⟨g, n * 8 + 6, none⟩ (.string a.name)).setCell ⟨g, n * 8 + 7, none⟩ (.slice none 0 0)) ∧ Args W base (.slice (some ⟨g, 0, none⟩) (n + 1) c) (l.dropLast ++ [a]) ∧ w.grownBy W (some g) ∧ (∀ g' cs, g' ≠ g → Blk w7 g' cs → Blk W g' cs) := by
  obtain ⟨_, _, cur, hcur, hsz, hlast⟩ := Args.last h hn (by omega) a
  simp only [Nat.add_sub_cancel] at hlast
  have p0 : LastSt w w7 g w7 cur := ⟨by rw [Below.block hx g (Array.getElem?_eq_some_iff.1 hcur).1]; exact hcur, ⟨hx.os, hx.tape, hx.output, hx.size, fun i hi _ => Below.block hx i hi⟩, fun _ _ _ h => h⟩
  have p1 := p0.step (n * 8) (.string a.word)
  have p2 := p1.step (n * 8 + 1) (.string ⟨#[]⟩)
  have p3 := p2.step (n * 8 + 2) (.bool false)
  have p4 := p3.step (n * 8 + 3) (.bool a.mem)
  have p5 := p4.step (n * 8 + 4) (.string a.op)
  have p6 := p5.step (n * 8 + 5) (.int .u16 a.n)
  have p7 := p6.step (n * 8 + 6) (.string a.name)
  have p8 := p7.step (n * 8 + 7) (.slice none 0 0)
  exact ⟨_, rfl, hlast _ p8.here, p8.grown, p8.blk⟩
end Go.Proofs.YtnklmehphmidhaaGreatDoor
