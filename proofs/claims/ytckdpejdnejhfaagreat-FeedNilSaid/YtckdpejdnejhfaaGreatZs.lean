/- Joined by program: HtH Sec Sealed Copy With. -/
import Derived.Test.YtckdpejdnejhfaaGreatZn
import Derived.Test.YtckdpejdnejhfaaGreatZp
import Derived.Test.YtckdpejdnejhfaaGreatZa
import Derived.Test.YtckdpejdnejhfaaGreatZm
/- House: the bids told: copied, Stands. -/
set_option linter.all false
namespace Go.Proofs.YtckdpejdnejhfaaGreat.Ho
open Go.RowKit
open Go.Proofs.YtckdpejdnejhfaaGreat.Vb Go.Proofs.YtckdpejdnejhfaaGreat.Ac

end Go.Proofs.YtckdpejdnejhfaaGreat.Ho

/- Secret bids; sealed.coins; who may not bid. -/
namespace Go.Proofs.YtckdpejdnejhfaaGreat.Vb
open Go.RowKit

structure Sec where
  b : Int
  c : Int
def Sec.wf (s : Sec) : Prop := (-9223372036854775808 ≤ s.b ∧ s.b ≤ 9223372036854775807) ∧ -9223372036854775808 ≤ s.c ∧ s.c ≤ 9223372036854775807
def Sec.cells (s : Sec) : List Value := [.int .i64 s.b, .int .i64 s.c]
def Sec.all (l : List Sec) : List Value := l.flatMap Sec.cells
def coinB (x : Int) : Bool := decide (0 ≤ x) && decide (x ≤ 1099511627776)
def secBad (s : Sec) : Bool := decide (s.b < 0) || !coinB s.c
end Go.Proofs.YtckdpejdnejhfaaGreat.Vb

/- sealed.best, sealed.come. -/
namespace Go.Proofs.YtckdpejdnejhfaaGreat.Vb
open Go.RowKit

def beats (a : Option (Nat × Int)) (c : Int) : Bool := match a with | none => true | some (_, c0) => decide (c0 < c)
def bstep (floor but : Int) (i : Nat) (s : Sec) (a : Option (Nat × Int)) : Option (Nat × Int) := if decide ((i : Int) ≠ but) && decide (floor ≤ s.c) && beats a s.c then some (i, s.c) else a
/-- the best of the first k bids: its place, its coins -/
def bestK (floor but : Int) (l : List Sec) : Nat → Option (Nat × Int)
  | 0 => none
  | k + 1 => match l[k]? with | some s => bstep floor but k s (bestK floor but l k) | none => bestK floor but l k
end Go.Proofs.YtckdpejdnejhfaaGreat.Vb

/- goods.Copy. -/
namespace Go.Proofs.YtckdpejdnejhfaaGreat.Vb
open Go.RowKit

end Go.Proofs.YtckdpejdnejhfaaGreat.Vb

/- offers.With, offers.Without. -/
namespace Go.Proofs.YtckdpejdnejhfaaGreat.Vb
open Go.RowKit

def withE (n : Int) (bs : List (List Off)) (buyer : Int) (l : List Off) : Int :=
  if instE n bs ≠ 0 then instE n bs else if buyer < 0 ∨ (bs.length : Int) ≤ buyer then 2 else checkE n l

end Go.Proofs.YtckdpejdnejhfaaGreat.Vb
