/- Joined by program. -/
import Derived.Test.YtckdpejdnejhfaaGreatZa
import Derived.Conc.HoldsTime
import Derived.Handed
set_option linter.all false
namespace Go.Proofs.YtckdpejdnejhfaaGreat
namespace On
open Go Go.Conc Go.ConcM
theorem ziK {P:Program} {a:Machine} {w:World} {t:Trace} (h:aloneAtReturn P a w t):leavingAtReturn P a w t:=by
 obtain ⟨⟨b,c⟩,d,e⟩:=h;refine ⟨d,⟨fun g f=>⟨0,?_⟩,c⟩,e⟩;unfold Machine.othersDone at b;have:=List.all_eq_true.1 b g f
 simpa [Goroutine.LeavesIn] using this
theorem leaving_of_handed {a:Assume} {C:Checked} {os:Os} {f:FuncId} {r:Reach} {Pre:World→Array Value→Prop} {Post:World→Array Value→Value→World→Prop}
  (h:ReturnsInHanded a C os f r Pre Post):ReturnsInLeavingWide a C os f r Pre Post:=fun enter=>by
 obtain ⟨h1,h2,h3,h4,h5⟩:=h enter;refine ⟨h1,h2,h3,h4,fun w tape i hf=>?_⟩;obtain ⟨n,v,w',k1,k2,k3,k4,⟨j,last,k5,k6,k7⟩,k8⟩:=h5 w tape i hf;exact ⟨n,v,w',k1,k2,k3,k4,⟨j,last,k5,k6,ziK k7⟩,k8⟩
section
variable {H:Type} {enc:TypeId×Value→H}
end
end On
end Go.Proofs.YtckdpejdnejhfaaGreat
