/- Joined by program: TiQ. -/
import Derived.Test.YthoaidfpgijbfaaGreatZw
set_option linter.all false
set_option maxRecDepth 100000
set_option maxHeartbeats 32000000
namespace Go.Proofs.YthoaidfpgijbfaaGreat
namespace Ho
open Go.RowKit Go.WideShapes Go.ChangeShapes Go.ChangeAt Go.Joins Go.Deep
theorem zq8:joinedFacts Tryz.pinned.checked.prog 5 Tryz.f5 Rows.houseTimeSpec Rows.houseTimeRow=true:=of_decide_eq_true (by kernel_rfl)
end Ho
end Go.Proofs.YthoaidfpgijbfaaGreat
