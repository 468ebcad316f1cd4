/- Joined by program: BoQ. -/
import Derived.Test.YthoaidfpgijbfaaGreatZw
set_option linter.all false
set_option maxRecDepth 100000
set_option maxHeartbeats 32000000
namespace Go.Proofs.YthoaidfpgijbfaaGreat
namespace Ho
open Go.RowKit Go.WideShapes Go.ChangeShapes Go.ChangeAt Go.Joins Go.Deep
theorem book_facts:joinedFacts Tryz.pinned.checked.prog 6 Tryz.f6 Rows.houseBookSpec Rows.houseBookRow=true:=of_decide_eq_true (by kernel_rfl)
end Ho
end Go.Proofs.YthoaidfpgijbfaaGreat
