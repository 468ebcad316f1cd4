/- Joined by program: IrJ UoF UnB0 UnB UnC UnD UnE UnF. -/
import Derived.Test.YtckdpejdnejhfaaGreatZy
import Derived.Test.YtckdpejdnejhfaaGreatZu
import Derived.Test.YtckdpejdnejhfaaGreatZp
import Derived.Test.YtckdpejdnejhfaaGreatZab
import Derived.Test.YtckdpejdnejhfaaGreatZx
import Derived.Test.YtckdpejdnejhfaaGreatZb
/- House: a lot of packages sold. (Printed by tools/gen_irb.py.) -/
set_option linter.all false
namespace Go.Proofs.YtckdpejdnejhfaaGreat.Ho
open Go.RowKit
open Go.Proofs.YtckdpejdnejhfaaGreat.Vb Go.Proofs.YtckdpejdnejhfaaGreat.Ac

def bsOf (l : LotS) : List (List Off) := l.stands.map (·.offers)
def pkgPays (l : LotS) : List Int := if l.put.rule = 2 then payTo l.put.count (bsOf l) (bsOf l).length else paysC l.put.count (bsOf l)
def pkgRow (x : Stand × Int × Int) : List SaleR := if 0 ≤ x.2.1 then [⟨0, 0, x.1.bidder, x.2.2, ((x.1.offers[x.2.1.toNat]?.map (·.g)).getD 0 : Nat), 0, 0⟩] else []
def pkgZip (l : LotS) : List (Stand × Int × Int) := l.stands.zip ((bestC l.put.count (bsOf l)).zip (pkgPays l))
def pkgSales (l : LotS) : List SaleR := (pkgZip l).flatMap pkgRow
end Go.Proofs.YtckdpejdnejhfaaGreat.Ho

/- House: a bid at a lot of many units. (Printed by tools/gen_uof.py.) -/
namespace Go.Proofs.YtckdpejdnejhfaaGreat.Ho
open Go.RowKit
open Go.Proofs.YtckdpejdnejhfaaGreat.Vb Go.Proofs.YtckdpejdnejhfaaGreat.Ac

def unitsE (a : Acc) (l : LotS) (j : Int) (os : List Off) : Int :=
  if l.put.count < os.length then 2 else if wantsB os = false then 2 else if unitE l.put.count l.put.floor (wantsL os) ≠ 0 then unitE l.put.count l.put.floor (wantsL os) else standE a j (sumI (wantsL os))
end Go.Proofs.YtckdpejdnejhfaaGreat.Ho

/- House: units: which unit comes first; the heap's methods Len, Less, Swap, Push, Pop over a row of units. -/
namespace Go.Proofs.YtckdpejdnejhfaaGreat.Ho
open Go.RowKit
open Go.Proofs.YtckdpejdnejhfaaGreat.Vb Go.Proofs.YtckdpejdnejhfaaGreat.Ac

abbrev UnitR.agg (u : UnitR) : Value := .agg #[.int .i64 u.bid, .int .i64 u.place, .int .i64 u.coins]
end Go.Proofs.YtckdpejdnejhfaaGreat.Ho

/- House: units: a row of units: Swap, Push, Pop. -/
namespace Go.Proofs.YtckdpejdnejhfaaGreat.Ho
open Go.RowKit
open Go.Proofs.YtckdpejdnejhfaaGreat.Vb Go.Proofs.YtckdpejdnejhfaaGreat.Ac

end Go.Proofs.YtckdpejdnejhfaaGreat.Ho

/- House: container/heap's up over units' row. -/
namespace Go.Proofs.YtckdpejdnejhfaaGreat.Ho
open Go.RowKit
open Go.Proofs.YtckdpejdnejhfaaGreat.Vb Go.Proofs.YtckdpejdnejhfaaGreat.Ac

def gU (l : List UnitR) : Nat → UnitR := fun k => l.getD k ⟨0, 0, 0⟩
/-- a row of units, whatever its slice -/
def URow (W : World) (R : Nat → Prop) (r : Nat) (l : List UnitR) : Prop := ∃ v F, UnI W R r v F l
end Go.Proofs.YtckdpejdnejhfaaGreat.Ho

/- House: container/heap's down over units' row. -/
namespace Go.Proofs.YtckdpejdnejhfaaGreat.Ho
open Go.RowKit
open Go.Proofs.YtckdpejdnejhfaaGreat.Vb Go.Proofs.YtckdpejdnejhfaaGreat.Ac

end Go.Proofs.YtckdpejdnejhfaaGreat.Ho

/- House: container/heap's Push, Pop, Remove, Fix over units' row. -/
namespace Go.Proofs.YtckdpejdnejhfaaGreat.Ho
open Go.RowKit
open Go.Proofs.YtckdpejdnejhfaaGreat.Vb Go.Proofs.YtckdpejdnejhfaaGreat.Ac

end Go.Proofs.YtckdpejdnejhfaaGreat.Ho

/- House: container/heap's Fix over units' row. -/
namespace Go.Proofs.YtckdpejdnejhfaaGreat.Ho
open Go.RowKit
open Go.Proofs.YtckdpejdnejhfaaGreat.Vb Go.Proofs.YtckdpejdnejhfaaGreat.Ac

end Go.Proofs.YtckdpejdnejhfaaGreat.Ho
