/- Joined by program: RangeF RangeFA UoC UoD. -/
import Derived.Test.YtckdpejdnejhfaaGreatZv
import Derived.Test.YtckdpejdnejhfaaGreatZy
import Derived.Test.YtckdpejdnejhfaaGreatZac
import Derived.Deep.LoopGhost
import Derived.Test.YtckdpejdnejhfaaGreatZr
/- A range over a function that turns memory of its own between its yields; the caller's invariant is of what lay ahead of it; it may be left by a break. -/
set_option linter.all false
namespace Go.Proofs.YtckdpejdnejhfaaGreat.Ac
open Go.RowKit
open Go.Proofs.YtckdpejdnejhfaaGreat.Vb

variable {F : Fence} {n : Nat} {P : Program}
end Go.Proofs.YtckdpejdnejhfaaGreat.Ac

/- A range over a function that turns memory of its own (RangeF), whose round begins with a variable laid anew. -/
namespace Go.Proofs.YtckdpejdnejhfaaGreat.Ac
open Go.RowKit
open Go.Proofs.YtckdpejdnejhfaaGreat.Vb

variable {F : Fence} {n : Nat} {P : Program}
end Go.Proofs.YtckdpejdnejhfaaGreat.Ac

/- House: units: Order's iterator. -/
namespace Go.Proofs.YtckdpejdnejhfaaGreat.Ho
open Go.RowKit Go.Shelf
open Go.Proofs.YtckdpejdnejhfaaGreat.Vb Go.Proofs.YtckdpejdnejhfaaGreat.Ac
attribute [local go_sem] Oper.semAt_some

/-- between two rounds: pre has come, m are to come -/
structure UOI (J : List UnitR → World → Prop) (lo r g10 g7 : Nat) (X : Nat → Prop) (bids : List (List Int)) (m : Nat) (wr : World) (pre : List UnitR) (p : Nat → Nat) (l : List UnitR) : Prop where
  ord : OrdAt wr X g10 g7 bids
  row : URow wr (fun b => lo ≤ b) r l
  perm : l.Perm (headsU bids p)
  heap : HeapF leU (gU l) l.length
  come : ComesU bids pre p
  j : J pre wr
  num : m + pre.length = (ordU bids).length
  pos : ∀ i b, bids[i]? = some b → p i ≤ b.length
  size : lo ≤ wr.heap.size
end Go.Proofs.YtckdpejdnejhfaaGreat.Ho

/- House: units: Sell. -/
namespace Go.Proofs.YtckdpejdnejhfaaGreat.Ho
open Go.RowKit Go.Shelf
open Go.Proofs.YtckdpejdnejhfaaGreat.Vb Go.Proofs.YtckdpejdnejhfaaGreat.Ac
attribute [local go_sem] Oper.semAt_some

/-- how many of a row are the ith bid's -/
def cntU (i : Nat) (pre : List UnitR) : Int := ((pre.filter fun u => u.bid == (i : Int)).length : Nat)
def wonU (n : Nat) (pre : List UnitR) : List Int := (List.range n).map fun i => cntU i pre
def priceU (count : Nat) (fl : Int) (os : List UnitR) : Int := match os[count]? with | some u => max u.coins fl | none => fl
end Go.Proofs.YtckdpejdnejhfaaGreat.Ho
