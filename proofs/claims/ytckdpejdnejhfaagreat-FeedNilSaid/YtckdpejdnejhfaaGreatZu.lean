/- Joined by program: Sell HsA. -/
import Derived.Test.YtckdpejdnejhfaaGreatZt
import Derived.Test.YtckdpejdnejhfaaGreatZq
/- sealed.Sell. -/
set_option linter.all false
namespace Go.Proofs.YtckdpejdnejhfaaGreat.Vb
open Go.RowKit

def sellBad (floor : Int) (l : List Sec) : Bool := !coinB floor || l.any secBad
instance (l : List Int) : Decidable l.Nodup := inferInstance
def sellE (floor : Int) (l : List Sec) : Int := if sellBad floor l = true then 2 else if (l.map (·.b)).Nodup then 0 else 5
end Go.Proofs.YtckdpejdnejhfaaGreat.Vb

/- House: a sealed lot is sold. -/
namespace Go.Proofs.YtckdpejdnejhfaaGreat.Ho
open Go.RowKit
open Go.Proofs.YtckdpejdnejhfaaGreat.Vb Go.Proofs.YtckdpejdnejhfaaGreat.Ac

def secsOf (ss : List Stand) : List Sec := ss.map fun s => ⟨s.bidder, s.held⟩
/-- who has a sealed lot, and what it pays -/
def sealedSold (fl : Int) (ss : List Stand) : Option (Int × Int) :=
  if sellE fl (secsOf ss) = 0 then match bestK fl (-1) (secsOf ss) (secsOf ss).length with | none => none | some (j, _) => some ((((secsOf ss)[j]?).map (·.b)).getD 0, nextC fl (secsOf ss) j) else none
def sealedSales (l : LotS) : List SaleR := match sealedSold l.put.floor l.stands with | none => [] | some (w, p) => [saleOf w p]
def sealedLot (l : LotS) : LotS := match sealedSold l.put.floor l.stands with | none => l | some (_, p) => { l with price := p }
theorem Sl.none0 (W : World) (R : Nat → Prop) (sz : Nat) : Sl W R (.slice none 0 0) 0 sz [] := ⟨by simp, none, 0, rfl, Nat.le_refl _, Nat.zero_le _, fun h => absurd h (by omega)⟩
end Go.Proofs.YtckdpejdnejhfaaGreat.Ho
