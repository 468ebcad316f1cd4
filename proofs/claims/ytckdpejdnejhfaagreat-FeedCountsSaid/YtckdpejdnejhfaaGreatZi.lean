/- Joined by program. -/
import Derived.Test.YtckdpejdnejhfaaGreatZe
import Derived.Test.YtckdpejdnejhfaaGreatZh
set_option linter.all false
namespace Go.Proofs.YtckdpejdnejhfaaGreat
namespace Ac
open Go.RowKit Go.Shelf Go.Maps Vb
attribute [local go_sem] Oper.semAt_some
def zt4 (a c:Acc):Bool:=decide (a.bud=c.bud∧a.sp=c.sp∧a.M=c.M)
def Fm.same:Fm→Fm→Bool
 | .live a,.live c=>zt4 a c
 |_,_=>false
end Ac
end Go.Proofs.YtckdpejdnejhfaaGreat
