import Derived.Test.YthoaidfpgijbfaaGreatZf
namespace Go.Proofs.YthoaidfpgijbfaaGreat.Ac
open Go.RowKit Go.Shelf Go.Maps
open Go.Proofs.YthoaidfpgijbfaaGreat.Vb
attribute [local go_sem] Oper.semAt_some
def sameB (a c : Acc) : Bool := decide (a.bud = c.bud ∧ a.sp = c.sp ∧ a.M = c.M)
def Fm.same : Fm → Fm → Bool
  | .live a, .live c => sameB a c
  | _, _ => false
end Go.Proofs.YthoaidfpgijbfaaGreat.Ac
