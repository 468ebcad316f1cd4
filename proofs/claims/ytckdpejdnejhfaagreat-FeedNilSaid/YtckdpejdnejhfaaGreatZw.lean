/- Joined by program: LaA LaB LaC IrA IrB. -/
import Derived.Test.YtckdpejdnejhfaaGreatZm
import Derived.Test.YtckdpejdnejhfaaGreatZr
import Derived.Test.YtckdpejdnejhfaaGreatZn
import Derived.Test.YtckdpejdnejhfaaGreatZd
import Derived.Test.YtckdpejdnejhfaaGreatZq
import Derived.Deep.CutRange
/- House: ladder: begun, Right, least, End. (Printed by tools/gen_laa.py.) -/
set_option linter.all false
namespace Go.Proofs.YtckdpejdnejhfaaGreat.Ho
open Go.RowKit
open Go.Proofs.YtckdpejdnejhfaaGreat.Vb Go.Proofs.YtckdpejdnejhfaaGreat.Ac

structure RiseOk (l : LotR) : Prop where
  opens : coin l.opens
  closes : coin l.closes
  run : l.opens < l.closes
  start : coin l.start
  step : coin l.step
  one : 1 ≤ l.step
  extend : coin l.extend
  last : coin l.last
  end_ : l.closes ≤ l.last
end Go.Proofs.YtckdpejdnejhfaaGreat.Ho

/- House: ladder: broken, Bid. (Printed by tools/gen_lab.py.) -/
namespace Go.Proofs.YtckdpejdnejhfaaGreat.Ho
open Go.RowKit
open Go.Proofs.YtckdpejdnejhfaaGreat.Vb Go.Proofs.YtckdpejdnejhfaaGreat.Ac

/-- what a bid that breaks no rule keeps -/
structure BidOk (l : LotR) (r : RiseR) (b : RiseB) : Prop where
  right : rightR l r = true
  who : 0 ≤ b.bidder
  limit : coin b.limit
  free : 0 ≤ b.free
  now : coin b.now
  opens : l.opens ≤ b.now
  closes : b.now < r.closes
  least : leastR l r b.bidder ≤ b.limit
end Go.Proofs.YtckdpejdnejhfaaGreat.Ho

/- House: ladder: Bid. (Printed by tools/gen_lac.py.) -/
namespace Go.Proofs.YtckdpejdnejhfaaGreat.Ho
open Go.RowKit
open Go.Proofs.YtckdpejdnejhfaaGreat.Vb Go.Proofs.YtckdpejdnejhfaaGreat.Ac

end Go.Proofs.YtckdpejdnejhfaaGreat.Ho

/- House: a rising lot: what a bid leaves, plainly and in memory. -/
namespace Go.Proofs.YtckdpejdnejhfaaGreat.Ho
open Go.RowKit
open Go.Proofs.YtckdpejdnejhfaaGreat.Vb Go.Proofs.YtckdpejdnejhfaaGreat.Ac

/-- what Hold leaves -/
def holdA (a : Acc) (x v : Int) : Acc := if a.holdE x v = 0 then a.set x v else a
def riseB (H : House) (i : Nat) (a : Acc) (c : Int) : RiseB := ⟨i, c, a.free, H.now⟩
def riseE (H : House) (i : Nat) (a : Acc) (l : LotS) (os : List Off) : Int := match singleO os with | none => 2 | some c => brokenR l.put l.rise (riseB H i a c)
def relAt (acs : List Acc) (x : Int) (j : Nat) : List Acc := acs.modify x.toNat fun a => a.set j 0
def holdAt (acs : List Acc) (x : Int) (j : Nat) (v : Int) : List Acc := acs.modify x.toNat fun a => holdA a j v
def elderAccs (acs : List Acc) (j : Nat) (l : LotS) (r : RiseR) : List Acc := if 0 ≤ l.rise.leader ∧ l.rise.leader ≠ r.leader then relAt acs l.rise.leader j else acs
def riseL (l : LotS) (r : RiseR) : LotS := { l with rise := r, closes := r.closes, stands := [⟨r.leader, [⟨0, r.limit⟩], r.limit⟩] }
def riseH (H : House) (j : Nat) (l : LotS) (r : RiseR) : House := { H with accs := holdAt (elderAccs H.accs j l r) r.leader j r.limit, lots := H.lots.set j (riseL l r), due := upd H.due j (some r.closes) }
section
variable {W U : World} {T : Nat → Part} {h pn pc K : Nat} {va vl vb vs : Value} {H : House}
end
end Go.Proofs.YtckdpejdnejhfaaGreat.Ho

/- House: a bid at a rising lot. (Printed by tools/gen_irb.py.) -/
namespace Go.Proofs.YtckdpejdnejhfaaGreat.Ho
open Go.RowKit
open Go.Proofs.YtckdpejdnejhfaaGreat.Vb Go.Proofs.YtckdpejdnejhfaaGreat.Ac

end Go.Proofs.YtckdpejdnejhfaaGreat.Ho
