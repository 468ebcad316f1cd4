/- Joined by program: AccR. -/
import Derived.Test.YtckdpejdnejhfaaGreatZe
import Derived.Test.YtckdpejdnejhfaaGreatZi
/- Account: Same. (Printed by tools/gen_same.py.) -/
set_option linter.all false
namespace Go.Proofs.YtckdpejdnejhfaaGreat.Ac
open Go.RowKit Go.Shelf Go.Maps
open Go.Proofs.YtckdpejdnejhfaaGreat.Vb
attribute [local go_sem] Oper.semAt_some

def sameB (a c : Acc) : Bool := decide (a.bud = c.bud ∧ a.sp = c.sp ∧ a.M = c.M)
def Fm.same : Fm → Fm → Bool
  | .live a, .live c => sameB a c
  | _, _ => false
end Go.Proofs.YtckdpejdnejhfaaGreat.Ac
