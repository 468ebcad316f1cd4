/- Joined by program. -/
import Derived.Test.YtckdpejdnejhfaaGreatZah
set_option linter.all false
set_option maxRecDepth 100000
set_option maxHeartbeats 32000000
namespace Go.Proofs.YtckdpejdnejhfaaGreat
namespace Fd
open Go.RowKit Go.WideShapes Go.ChangeShapes Go.ChangeAt Go.Joins Go.Deep
theorem counts_facts:joinedFacts Tryz.pinned.checked.prog 4 Tryz.f4 Rows.feedCountsSpec Rows.feedCountsRow=true:=of_decide_eq_true (by kernel_rfl)
end Fd
end Go.Proofs.YtckdpejdnejhfaaGreat
