/- disasm: all pieces. -/
import Derived.Test.YtnklmehphmidhaaGreatDoorDie
namespace Go.Proofs.YtnklmehphmidhaaGreatDoor
open Go.RowKit
set_option maxRecDepth 100000
set_option maxHeartbeats 4000000
set_option linter.unusedSimpArgs false
set_option linter.unusedVariables false

theorem Tryz.info50 : (Tryz.prog.info? 50).map (fun i => (i.zero, i.size, i.bytes)) = some (some (.agg #[.string ⟨#[]⟩, .bool false, .string ⟨#[]⟩, .slice none 0 0, .int .i64 0, .int .i64 0, .int .i64 0]), 7, 88) := by kernel_rfl
theorem Tryz.info31 : (Tryz.prog.info? 31).map (fun i => (i.zero, i.size, i.bytes)) = some (some (.agg #[.string ⟨#[]⟩, .bool false, .string ⟨#[]⟩, .slice none 0 0]), 4, 64) := by kernel_rfl

/-- What stands at a place: a name, operands, how long, where it goes. -/
structure Piece where
  op : ByteArray
  args : List AR
  size : Int
  tgt : Int
deriving DecidableEq

/-- All pieces. -/
def sweepS (F : Int → List Int → Piece) : Nat → Int → List Int → List (Int × Piece)
  | 0, _, _ => []
  | f + 1, at', b => if b.length = 0 then [] else (at', F at' b) :: sweepS F f (at' + (F at' b).size) (b.drop (F at' b).size.toNat)

/-- Two rows lie in different blocks. -/
def apart (u v : Value) : Prop := ∀ g, u.ownBlock = some g → v.ownBlock ≠ some g

theorem apart.sub {u v : Value} (h : apart u v) {k : Option Nat} (hk : k = v.ownBlock) : u.ownBlock = none ∨ u.ownBlock ≠ k := by
  subst hk
  rcases hu : u.ownBlock with _ | g
  · exact .inl rfl
  · refine .inr fun e => h g hu e.symm

/-- A piece that lies in memory. -/
structure PL where
  v : Value
  at_ : Int
  p : Piece
def PL.cells (x : PL) : List Value := [.string ⟨#[]⟩, .bool false, .string x.p.op, x.v, .int .i64 x.at_, .int .i64 x.p.size, .int .i64 x.p.tgt]
theorem PL.cells_len (l : List PL) : (l.flatMap PL.cells).length = l.length * 7 := by
  induction l with
  | nil => rfl
  | cons a l ih => rw [List.flatMap_cons, List.length_append, ih]; simp [PL.cells]; omega

/-- v owns the pieces L, each with operands of its own. -/
structure Pieces (w : World) (base : Nat) (v : Value) (L : List PL) : Prop where
  row : w.ownsRow base 50 7 v L.length (L.flatMap PL.cells)
  args : ∀ x ∈ L, Args w base x.v x.p.args
  off : ∀ x ∈ L, apart x.v v
  pair : L.Pairwise (fun x y => apart x.v y.v)

theorem Pieces.nil (w : World) (base : Nat) : Pieces w base (.slice none 0 0) [] := ⟨World.ownsRow_nil _ _ _ _, by simp, by simp, .nil⟩
theorem Pieces.slice {w : World} {base : Nat} {v : Value} {L : List PL} (h : Pieces w base v L) : ∃ A c, v = .slice A L.length c := by
  rcases h.row.2 with ⟨rfl, hn⟩ | ⟨g, cap, cur, rfl, _⟩
  · exact ⟨none, 0, by rw [hn]⟩
  · exact ⟨_, cap, rfl⟩
theorem Pieces.ext {w w' : World} {base : Nat} {v : Value} {L : List PL} (h : Pieces w base v L) (hx : Ext w w') : Pieces w' base v L := by
  refine ⟨World.ownsRow.kept h.row (row := none) ⟨hx.os, hx.tape, hx.output, hx.size, fun i hi _ => Below.block hx i hi⟩ ?_, fun x hm => (h.args x hm).ext hx, h.off, h.pair⟩
  cases v.ownBlock <;> simp
theorem Pieces.mono {w : World} {base base' : Nat} {v : Value} {L : List PL} (h : Pieces w base v L) (hb : base' ≤ base) : Pieces w base' v L := by
  refine ⟨?_, fun x hm => (h.args x hm).mono hb, h.off, h.pair⟩
  obtain ⟨h1, h2⟩ := h.row
  refine ⟨h1, ?_⟩
  rcases h2 with h2 | ⟨g, cap, cur, hv, hg, r⟩
  · exact .inl h2
  · exact .inr ⟨g, cap, cur, hv, Nat.le_trans hb hg, r⟩
theorem Args.grown {w w' : World} {base : Nat} {v : Value} {l : List AR} {row : Option Nat} (h : Args w base v l) (hg : w.grownBy w' row) (hne : v.ownBlock = none ∨ v.ownBlock ≠ row) : Args w' base v l := World.ownsRow.kept h hg hne
theorem Args.lt {w : World} {base : Nat} {v : Value} {l : List AR} (h : Args w base v l) : ∀ k, v.ownBlock = some k → base ≤ k ∧ k < w.heap.size := World.ownsRow.lt h
theorem Args.len {w : World} {base : Nat} {v : Value} {l : List AR} (h : Args w base v l) : ∃ A c, v = .slice A l.length c := h.slice

/-- Behind an append: one more piece. -/
theorem Pieces.snoc {w w' : World} {base : Nat} {v v' : Value} {L : List PL} {x : PL} {k : Nat} (h : Pieces w base v L) (hk : L.length = k) (hA : Args w base x.v x.p.args) (hfar : ∀ y ∈ L, apart y.v x.v) (hoff : apart x.v v)
    (hrow : w'.ownsRow base 50 7 v' (k + 1) (L.flatMap PL.cells ++ PL.cells x)) (hg : w.grownBy w' v.ownBlock) (hat : v'.ownBlock = v.ownBlock ∨ v'.ownBlock = some w.heap.size) :
    Pieces w' base v' (L ++ [x]) := by
  subst hk
  have key : ∀ y : PL, Args w base y.v y.p.args → apart y.v v → apart y.v v' := by
    intro y hy ha j hj e
    rcases hat with hat | hat
    · exact ha _ hj (hat ▸ e)
    · rw [hat] at e
      injection e with e
      subst e
      exact absurd (hy.lt _ hj).2 (Nat.lt_irrefl _)
  refine ⟨?_, ?_, ?_, ?_⟩
  · rw [List.length_append, List.flatMap_append]
    simpa using hrow
  · intro y hy
    rcases List.mem_append.1 hy with hy | hy
    · exact (h.args y hy).grown hg ((h.off y hy).sub rfl)
    · obtain rfl : y = x := by simpa using hy
      exact hA.grown hg (hoff.sub rfl)
  · intro y hy
    rcases List.mem_append.1 hy with hy | hy
    · exact key y (h.args y hy) (h.off y hy)
    · obtain rfl : y = x := by simpa using hy
      exact key y hA hoff
  · rw [List.pairwise_append]
    exact ⟨h.pair, by simp, fun a ha b hb => by obtain rfl : b = x := by simpa using hb
                                                exact hfar a ha⟩
theorem apart.of_lt {w : World} {base : Nat} {u v : Value} (hu : ∀ k, u.ownBlock = some k → k < base) (hv : ∀ k, v.ownBlock = some k → base ≤ k) : apart u v := fun g hg e => by
  have h1 := hu g hg; have h2 := hv g e; omega
theorem apart.symm {u v : Value} (h : apart u v) : apart v u := fun g hg e => h g e hg

theorem Byts.drop {w : World} {A : Option Addr} {c n : Nat} {l : List Int} (h : Byts w (.slice A l.length c) l) (hn : n ≤ l.length) :
    Byts w (.slice (if c = n then A else Option.map (fun x => x.add n) A) (l.length - n) (c - n)) (l.drop n) := by
  obtain ⟨A0, c0, hv, h1, h2, hr, h3⟩ := h
  injection hv with e1 e2 e3
  subst e1; subst e3
  refine ⟨_, _, by rw [List.length_drop], by simp; omega, by omega, fun x hx => hr x (List.mem_of_mem_drop hx), fun hp => ?_⟩
  rw [List.length_drop] at hp
  obtain ⟨b, o, rfl, hlt, hc⟩ := h3 (by omega)
  refine ⟨b, o + n, ?_, hlt, fun j hj => ?_⟩
  · rw [if_neg (by omega)]; simp [Addr.add]
  · rw [List.length_drop] at hj
    have := hc (n + j) (by omega)
    rw [Nat.add_assoc, this]
    simp [List.getElem?_drop]

theorem sweepS_nil (F : Int → List Int → Piece) (f : Nat) (p : Int) (b : List Int) (hb : b.length = 0) : sweepS F f p b = [] := by
  cases f <;> simp [sweepS, hb]
theorem sweepS_cons (F : Int → List Int → Piece) (f : Nat) (p : Int) (b : List Int) (hb : 0 < b.length) (hf : b.length ≤ f) : ∃ f', f = f' + 1 ∧ sweepS F f p b = (p, F p b) :: sweepS F f' (p + (F p b).size) (b.drop (F p b).size.toNat) := by
  obtain ⟨f', rfl⟩ : ∃ f', f = f' + 1 := ⟨f - 1, by omega⟩
  refine ⟨f', rfl, ?_⟩
  simp only [sweepS]
  rw [if_neg (by omega)]
end Go.Proofs.YtnklmehphmidhaaGreatDoor
