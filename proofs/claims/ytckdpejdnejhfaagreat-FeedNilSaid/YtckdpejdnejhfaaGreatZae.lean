/- Joined by program: UoG DoA DoB DoC DoD DoE DoF DoG. -/
import Derived.Test.YtckdpejdnejhfaaGreatZac
import Derived.Test.YtckdpejdnejhfaaGreatZad
import Derived.Test.YtckdpejdnejhfaaGreatZs
import Derived.Test.YtckdpejdnejhfaaGreatZu
import Derived.Test.YtckdpejdnejhfaaGreatZx
import Derived.Test.YtckdpejdnejhfaaGreatZv
import Derived.Test.YtckdpejdnejhfaaGreatZy
import Derived.Test.YtckdpejdnejhfaaGreatZq
import Derived.Test.YtckdpejdnejhfaaGreatZn
import Derived.Test.YtckdpejdnejhfaaGreatZo
import Derived.Test.YtckdpejdnejhfaaGreatZl
/- House: a lot of many units is sold. (Printed by tools/gen_uog.py.) -/
set_option linter.all false
namespace Go.Proofs.YtckdpejdnejhfaaGreat.Ho
open Go.RowKit
open Go.Proofs.YtckdpejdnejhfaaGreat.Vb Go.Proofs.YtckdpejdnejhfaaGreat.Ac

def bidsOf (ss : List Stand) : List (List Int) := ss.map fun s => wantsL s.offers
def unitsOrd (l : LotS) : List UnitR := ordU (bidsOf l.stands)
def unitsPrice (l : LotS) : Int := priceU l.put.count.toNat l.put.floor (unitsOrd l)
def unitsWon (l : LotS) : List Int := wonU l.stands.length ((unitsOrd l).take l.put.count.toNat)
def unitSale (p : Int) (x : Stand × Int) : SaleR := ⟨0, 0, x.1.bidder, p * x.2, 0, x.2, 0⟩
def salesU (p : Int) (xs : List (Stand × Int)) : List SaleR := (xs.filter fun x => decide (0 < x.2)).map (unitSale p)
def unitsSales (l : LotS) : List SaleR := salesU (unitsPrice l) (l.stands.zip (unitsWon l))
def unitsLot (l : LotS) : LotS := { l with price := unitsPrice l }
end Go.Proofs.YtckdpejdnejhfaaGreat.Ho

/- House: what an order does, plainly; what holds of a house behind any orders. -/
namespace Go.Proofs.YtckdpejdnejhfaaGreat.Ho
open Go.RowKit
open Go.Proofs.YtckdpejdnejhfaaGreat.Vb Go.Proofs.YtckdpejdnejhfaaGreat.Ac

def sellP (l : LotS) : LotS × List SaleR :=
  if l.put.kind = 1 then (l, riseSales l) else if l.put.kind = 2 then (l, []) else if l.put.kind = 3 then (sealedLot l, sealedSales l) else if l.put.kind = 4 then (unitsLot l, unitsSales l) else (l, pkgSales l)
/-- what holds of a lot in a house of N bidders -/
structure LotInv (N : Nat) (l : LotS) : Prop where
  ok : lotOk l.put = true
  bid : ∀ s ∈ l.stands, 0 ≤ s.bidder ∧ s.bidder < N
  nodup : (l.stands.map (·.bidder)).Nodup
  held : ∀ s ∈ l.stands, coin s.held
  offs : ∀ s ∈ l.stands, s.offers.length ≤ 64
  rise : l.rise.leader < N
  units : l.put.kind = 4 → ∀ s ∈ l.stands, wantsB s.offers = true ∧ unitE l.put.count l.put.floor (wantsL s.offers) = 0
  pkg : l.put.kind = 5 → l.stands.length ≤ 32 ∧ ∀ s ∈ l.stands, checkE l.put.count s.offers = 0
def closedN (ls : List LotS) : Nat := ls.countP (·.closed)
/-- what holds of a house behind any orders -/
structure HInv (H : House) : Prop where
  accs : AccsOk H.accs
  names : H.accs.length = H.names.length
  nlen : H.names.length ≤ 4096
  llen : H.lots.length ≤ 4096
  due : H.due = dueOf H.lots
  lots : ∀ l ∈ H.lots, LotInv H.accs.length l
  sales : H.sales.length ≤ 64 * closedN H.lots
/-- of which account and lot an order is -/
def atP (H : House) (o : OrderR) : Option (Acc × LotS) :=
  if (o.bidder < 0 ∨ (H.accs.length : Int) ≤ o.bidder) ∨ (o.lot < 0 ∨ (H.lots.length : Int) ≤ o.lot) then none
  else match H.accs[o.bidder.toNat]?, H.lots[o.lot.toNat]? with
    | some a, some l => some (a, l)
    | _, _ => none
def overB (H : House) (l : LotS) : Bool := l.closed || decide (H.now < l.put.opens) || decide (l.closes ≤ H.now)
def coinsO (os : List Off) : Int := (singleO os).getD 0
def riseQ (H : House) (i : Nat) (a : Acc) (l : LotS) (os : List Off) : RiseR := bidR l.put l.rise (riseB H i a (coinsO os))
def kE (H : House) (i j : Nat) (a : Acc) (l : LotS) (os : List Off) : Int :=
  if l.put.kind = 1 then riseE H i a l os else if l.put.kind = 2 then fallE H a l os else if l.put.kind = 3 then sealedE a l j os else if l.put.kind = 4 then unitsE a l j os else pkgE l a i j os
def kHeld (l : LotS) (os : List Off) : Int := if l.put.kind = 3 then coinsO os else if l.put.kind = 4 then sumI (wantsL os) else mostO os
def kH (H : House) (i j : Nat) (a : Acc) (l : LotS) (os : List Off) : House :=
  if l.put.kind = 1 then riseH H j l (riseQ H i a l os) else if l.put.kind = 2 then fallH H i j l else standH H i j a l ⟨i, os, kHeld l os⟩
def bidE (H : House) (o : OrderR) : Int := match atP H o with | none => 4 | some (a, l) => if overB H l = true then 6 else kE H o.bidder.toNat o.lot.toNat a l o.offers
def bidH (H : House) (o : OrderR) : House := match atP H o with | none => H | some (a, l) => kH H o.bidder.toNat o.lot.toNat a l o.offers
def takeE (H : House) (o : OrderR) : Int := match atP H o with | none => 4 | some (_, l) => if overB H l = true then 6 else dropE l o.bidder.toNat
def takeH (H : House) (o : OrderR) : House := match atP H o with | none => H | some (a, l) => dropH H o.bidder.toNat o.lot.toNat a l
def timeE (H : House) (t : Int) : Int := if coinB t = false ∨ t < H.now then (if coinB t = true then 6 else 2) else 0
open Classical in
noncomputable def duesP (D : Int → Option Int) (t : Int) : List Du := if h : ∃ ds, DueL D t ds then Classical.choose h else []
noncomputable def timeP (H : House) (t : Int) : House := timeH sellP H t (duesP H.due t)
def doesE (H : House) (o : OrderR) : Int :=
  if o.kind = 1 then enterE H o.coins o.name else if o.kind = 2 then broughtE H o.bidder o.coins else if o.kind = 3 then putE H o.put else if o.kind = 4 then bidE H o else if o.kind = 5 then takeE H o else timeE H o.tick
noncomputable def doesH (H : House) (o : OrderR) : House :=
  if o.kind = 1 then enterH H o.coins o.name else if o.kind = 2 then broughtH H o.bidder o.coins else if o.kind = 3 then putH H o.put else if o.kind = 4 then bidH H o else if o.kind = 5 then takeH H o else timeP H o.tick
def doE (H : House) (o : OrderR) : Int := if spareB o = false then 2 else doesE H o
noncomputable def doH (H : House) (o : OrderR) : House := if doE H o = 0 then { doesH H o with book := (doesH H o).book ++ [o] } else H
end Go.Proofs.YtckdpejdnejhfaaGreat.Ho

/- House: each kind's lot is sold as sellP says. -/
namespace Go.Proofs.YtckdpejdnejhfaaGreat.Ho
open Go.RowKit
open Go.Proofs.YtckdpejdnejhfaaGreat.Vb Go.Proofs.YtckdpejdnejhfaaGreat.Ac

end Go.Proofs.YtckdpejdnejhfaaGreat.Ho

/- House: Do, by what the order does. (Printed by tools/gen_doc.py.) -/
namespace Go.Proofs.YtckdpejdnejhfaaGreat.Ho
open Go.RowKit
open Go.Proofs.YtckdpejdnejhfaaGreat.Vb Go.Proofs.YtckdpejdnejhfaaGreat.Ac

end Go.Proofs.YtckdpejdnejhfaaGreat.Ho

/- House: a bid, whatever the lot's kind. -/
namespace Go.Proofs.YtckdpejdnejhfaaGreat.Ho
open Go.RowKit
open Go.Proofs.YtckdpejdnejhfaaGreat.Vb Go.Proofs.YtckdpejdnejhfaaGreat.Ac

section
variable {W : World} {T : Nat → Part} {h pn pc K : Nat} {va vl vb vs : Value} {H : House} {o : OrderR} {A : Option Addr} {c : Nat} {R : Nat → Prop}
end
end Go.Proofs.YtckdpejdnejhfaaGreat.Ho

/- House: Do, whatever the order. -/
namespace Go.Proofs.YtckdpejdnejhfaaGreat.Ho
open Go.RowKit
open Go.Proofs.YtckdpejdnejhfaaGreat.Vb Go.Proofs.YtckdpejdnejhfaaGreat.Ac

section
variable {W : World} {T : Nat → Part} {h pn pc K : Nat} {va vl vb vs : Value} {H : House} {o : OrderR} {A : Option Addr} {c : Nat} {R : Nat → Prop}
end
end Go.Proofs.YtckdpejdnejhfaaGreat.Ho

/- House: what holds of a house holds behind an order. -/
namespace Go.Proofs.YtckdpejdnejhfaaGreat.Ho
open Go.RowKit
open Go.Proofs.YtckdpejdnejhfaaGreat.Vb Go.Proofs.YtckdpejdnejhfaaGreat.Ac

end Go.Proofs.YtckdpejdnejhfaaGreat.Ho

/- House: what holds of a house holds behind bids, drops, time. -/
namespace Go.Proofs.YtckdpejdnejhfaaGreat.Ho
open Go.RowKit
open Go.Proofs.YtckdpejdnejhfaaGreat.Vb Go.Proofs.YtckdpejdnejhfaaGreat.Ac

/-- all but the calendar -/
structure HPre (H : House) : Prop where
  accs : AccsOk H.accs
  names : H.accs.length = H.names.length
  nlen : H.names.length ≤ 4096
  llen : H.lots.length ≤ 4096
  lots : ∀ l ∈ H.lots, LotInv H.accs.length l
  sales : H.sales.length ≤ 64 * closedN H.lots
end Go.Proofs.YtckdpejdnejhfaaGreat.Ho
