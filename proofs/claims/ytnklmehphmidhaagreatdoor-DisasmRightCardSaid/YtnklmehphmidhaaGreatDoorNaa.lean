/- What the 8086's first instruction comes out as: names, operands, the piece; which forms there are. -/
import Derived.Test.YtnklmehphmidhaaGreatDoorIzh
namespace Go.Proofs.YtnklmehphmidhaaGreatDoor
open Go.RowKit
set_option maxRecDepth 100000
set_option maxHeartbeats 1000000
set_option linter.unusedSimpArgs false
set_option linter.unusedVariables false

def nmL : List ByteArray := [⟨#[]⟩, ⟨#[77, 79, 86]⟩, ⟨#[65, 68, 68]⟩, ⟨#[79, 82]⟩, ⟨#[65, 68, 67]⟩, ⟨#[83, 66, 66]⟩, ⟨#[65, 78, 68]⟩, ⟨#[83, 85, 66]⟩, ⟨#[88, 79, 82]⟩, ⟨#[67, 77, 80]⟩, ⟨#[73, 78, 67]⟩, ⟨#[68, 69, 67]⟩, ⟨#[82, 79, 76]⟩, ⟨#[82, 79, 82]⟩, ⟨#[82, 67, 76]⟩, ⟨#[82, 67, 82]⟩, ⟨#[78, 79, 84]⟩, ⟨#[88, 67, 72, 71]⟩, ⟨#[80, 85, 83, 72]⟩, ⟨#[80, 79, 80]⟩, ⟨#[76, 65, 72, 70]⟩, ⟨#[83, 65, 72, 70]⟩, ⟨#[68, 65, 65]⟩, ⟨#[67, 77, 67]⟩, ⟨#[83, 84, 67]⟩, ⟨#[67, 76, 67]⟩, ⟨#[83, 84, 73]⟩, ⟨#[67, 76, 73]⟩, ⟨#[72, 76, 84]⟩, ⟨#[78, 79, 80]⟩, ⟨#[73, 78]⟩, ⟨#[79, 85, 84]⟩, ⟨#[74, 77, 80]⟩, ⟨#[74, 77, 80, 83]⟩, ⟨#[67, 65, 76, 76]⟩, ⟨#[82, 69, 84]⟩, ⟨#[]⟩, ⟨#[]⟩, ⟨#[]⟩, ⟨#[]⟩, ⟨#[]⟩, ⟨#[]⟩, ⟨#[74, 66]⟩, ⟨#[74, 78, 66]⟩, ⟨#[74, 90]⟩, ⟨#[74, 78, 90]⟩, ⟨#[]⟩, ⟨#[]⟩, ⟨#[74, 83]⟩, ⟨#[74, 78, 83]⟩, ⟨#[74, 80]⟩, ⟨#[74, 78, 80]⟩]
def agL : List ByteArray := [⟨#[]⟩, ⟨#[65, 76]⟩, ⟨#[67, 76]⟩, ⟨#[68, 76]⟩, ⟨#[66, 76]⟩, ⟨#[65, 72]⟩, ⟨#[67, 72]⟩, ⟨#[68, 72]⟩, ⟨#[66, 72]⟩, ⟨#[65, 88]⟩, ⟨#[67, 88]⟩, ⟨#[68, 88]⟩, ⟨#[66, 88]⟩, ⟨#[83, 80]⟩, ⟨#[66, 80]⟩, ⟨#[83, 73]⟩, ⟨#[68, 73]⟩, ⟨#[91, 66, 88, 93]⟩, ⟨#[91, 83, 73, 93]⟩, ⟨#[91, 110, 110, 93]⟩, ⟨#[110, 110]⟩]
def name86 (op : Int) : ByteArray := if 0 ≤ op then nmL.getD op.toNat ⟨#[]⟩ else ⟨#[]⟩
def arg86 (c : Int) : ByteArray := if 0 ≤ c then agL.getD c.toNat ⟨#[]⟩ else ⟨#[]⟩
def jumps86 (op : Int) : Bool := op == 32 || op == 33 || op == 34 || op == 42 || op == 43 || op == 44 || op == 45 || op == 48 || op == 49 || op == 50 || op == 51
def code86 (c n : Int) : List AR := if c = 0 then [] else if c = 19 then [operandS ⟨#[40, 110, 41]⟩ n] else if c = 20 then [operandS ⟨#[110]⟩ n] else [operandS (arg86 c) 0]
def num86 (p : Int) (r : R86) : Int := if jumps86 r.op = true then (r.n + (p + r.size)) % 65536 else r.n
def F86 (p : Int) (b : List Int) : Piece :=
  if (read86S b).kind ≠ 0 then ⟨⟨#[68, 66]⟩, [numA false (b.getD 0 0)], 1, -1⟩
  else ⟨name86 (read86S b).op, code86 (read86S b).d (num86 p (read86S b)) ++ code86 (read86S b).s (num86 p (read86S b)), (read86S b).size, if jumps86 (read86S b).op = true then num86 p (read86S b) else -1⟩

def mfree (a : Int) : Bool := !(decide (a < 64) && decide (a % 8 < 3)) && a != 128 && a != 134 && a != 135 && a != 208 && a != 209 && a != 246 && a != 254 && bits .and .u8 a 252 != 136
/-- A form's check: its bytes lead back to it. -/
def chk (op d s : Nat) : Bool :=
  match headsS op d s with
  | ([], _) => true
  | (a :: r, t) => guessS a (r.getD 0 0) == ((op : Int), (d : Int), (s : Int)) && decide (r.length ≤ 1) && (decide (r.length = 1) || mfree a) && decide (0 ≤ a) && decide (a ≤ 255) && r.all (fun y => decide (0 ≤ y) && decide (y ≤ 255))
    && decide (0 < (name86 op).size) && (!jumps86 op || (decide (d = 20) && decide (s = 0)))
theorem chk_all : ((List.range 56).all fun op => (List.range 21).all fun d => (List.range 21).all fun s => chk op d s) = true := by decide +kernel
end Go.Proofs.YtnklmehphmidhaaGreatDoor
