/- Joined by program: IrC IrD IrE IrG UnA UnP. -/
import Derived.Test.YtckdpejdnejhfaaGreatZw
import Derived.Test.YtckdpejdnejhfaaGreatZu
import Derived.Test.YtckdpejdnejhfaaGreatZq
import Derived.Deep.CutRange
import Derived.Test.YtckdpejdnejhfaaGreatZd
import Derived.Test.YtckdpejdnejhfaaGreatZp
import Derived.Test.YtckdpejdnejhfaaGreatZv
/- House: a bid at a rising lot, done. (Printed by tools/gen_irb.py.) -/
set_option linter.all false
namespace Go.Proofs.YtckdpejdnejhfaaGreat.Ho
open Go.RowKit
open Go.Proofs.YtckdpejdnejhfaaGreat.Vb Go.Proofs.YtckdpejdnejhfaaGreat.Ac

structure RiseGood (l : LotR) (r : RiseR) (b : RiseB) (q : RiseR) : Prop where
  lead : q.leader = b.bidder ∨ (q.leader = r.leader ∧ 0 ≤ r.leader)
  nn : 0 ≤ q.leader
  limit : coin q.limit
  closes : coin q.closes
  now : b.now < q.closes
end Go.Proofs.YtckdpejdnejhfaaGreat.Ho

/- House: rising and falling lots sold. (Printed by tools/gen_irb.py.) -/
namespace Go.Proofs.YtckdpejdnejhfaaGreat.Ho
open Go.RowKit
open Go.Proofs.YtckdpejdnejhfaaGreat.Vb Go.Proofs.YtckdpejdnejhfaaGreat.Ac

def riseSales (l : LotS) : List SaleR := if l.rise.leader < 0 ∨ rightR l.put l.rise = false then [] else [saleOf l.rise.leader l.rise.price]
end Go.Proofs.YtckdpejdnejhfaaGreat.Ho

/- House: a bid at a falling lot. (Printed by tools/gen_irb.py.) -/
namespace Go.Proofs.YtckdpejdnejhfaaGreat.Ho
open Go.RowKit
open Go.Proofs.YtckdpejdnejhfaaGreat.Vb Go.Proofs.YtckdpejdnejhfaaGreat.Ac

def fallE (H : House) (a : Acc) (l : LotS) (os : List Off) : Int := match singleO os with | none => 2 | some c => if c < fallPrice l.put H.now then 7 else if a.free < fallPrice l.put H.now then 8 else 0
def fallL (H : House) (l : LotS) : LotS := { l with price := fallPrice l.put H.now }
def fallH (H : House) (i j : Nat) (l : LotS) : House := closeH { H with lots := H.lots.set j (fallL H l), due := upd H.due j none } j (fallL H l) [saleOf i (fallPrice l.put H.now)]
end Go.Proofs.YtckdpejdnejhfaaGreat.Ho

/- House: a bid taken back. (Printed by tools/gen_irg.py.) -/
namespace Go.Proofs.YtckdpejdnejhfaaGreat.Ho
open Go.RowKit
open Go.Proofs.YtckdpejdnejhfaaGreat.Vb Go.Proofs.YtckdpejdnejhfaaGreat.Ac

def dropE (l : LotS) (i : Int) : Int := if l.put.kind = 1 ∨ l.put.kind = 2 then 9 else match placeN i l.stands with | none => 4 | some _ => 0
def dropL (l : LotS) (i : Int) : LotS := { l with stands := restS i l.stands }
def dropH (H : House) (i j : Nat) (a : Acc) (l : LotS) : House := { H with accs := H.accs.set i (a.set j 0), lots := H.lots.set j (dropL l i) }
end Go.Proofs.YtckdpejdnejhfaaGreat.Ho

/- House: units: their order, plainly; a row of units in memory. -/
namespace Go.Proofs.YtckdpejdnejhfaaGreat.Ho
open Go.RowKit
open Go.Proofs.YtckdpejdnejhfaaGreat.Vb Go.Proofs.YtckdpejdnejhfaaGreat.Ac

structure UnitR where
  (bid place coins : Int)
  deriving DecidableEq
def unCells (u : UnitR) : List Value := [.int .i64 u.bid, .int .i64 u.place, .int .i64 u.coins]
def unAll (l : List UnitR) : List Value := l.flatMap unCells
/-- more coins first, then the elder bid, then the place -/
def leU (a b : UnitR) : Prop := b.coins < a.coins ∨ (a.coins = b.coins ∧ (a.bid < b.bid ∨ (a.bid = b.bid ∧ a.place ≤ b.place)))
instance (a b : UnitR) : Decidable (leU a b) := inferInstanceAs (Decidable (_ ∨ _))
def befV : Value := .func (.func 268) #[] #[]
/-- a row of units in memory: l stands in it -/
structure UnI (W : World) (R : Nat → Prop) (r : Nat) (v : Value) (F : Unit) (l : List UnitR) : Prop where
  br : Ac.Blk W r 362 #[v, befV]
  row : RowAt W (fun b => R b ∧ b ≠ r) 355 3 v l.length (unAll l)
  inR : R r
section
variable {W W' : World} {R R' X : Nat → Prop} {r : Nat} {v : Value} {F : Unit} {l : List UnitR}
end
end Go.Proofs.YtckdpejdnejhfaaGreat.Ho

/- House: units: the order of all units is met by taking the least head again and again, plainly. -/
namespace Go.Proofs.YtckdpejdnejhfaaGreat.Ho
open Go.RowKit
open Go.Proofs.YtckdpejdnejhfaaGreat.Vb Go.Proofs.YtckdpejdnejhfaaGreat.Ac

def bidU (i : Nat) (b : List Int) : List UnitR := b.mapIdx fun k c => ⟨i, k, c⟩
def rowsU (bids : List (List Int)) : List (List UnitR) := bids.mapIdx bidU
def allU (bids : List (List Int)) : List UnitR := (rowsU bids).flatten
/-- all units in their order -/
def ordU (bids : List (List Int)) : List UnitR := (allU bids).mergeSort fun a b => decide (leU a b)
def restU (bids : List (List Int)) (p : Nat → Nat) : List UnitR := ((rowsU bids).mapIdx fun i b => b.drop (p i)).flatten
def headsU (bids : List (List Int)) (p : Nat → Nat) : List UnitR := ((rowsU bids).mapIdx fun i b => (b[p i]?).toList).flatten
section
variable {bids : List (List Int)} {p : Nat → Nat} {i : Nat} {u : UnitR} {b : List Int} {pre : List UnitR}
/-- pre has come, the rest is left, each bid's next place is p's -/
structure ComesU (bids : List (List Int)) (pre : List UnitR) (p : Nat → Nat) : Prop where
  rest : ∃ rs, ordU bids = pre ++ rs ∧ rs.Perm (restU bids p)
end
end Go.Proofs.YtckdpejdnejhfaaGreat.Ho
