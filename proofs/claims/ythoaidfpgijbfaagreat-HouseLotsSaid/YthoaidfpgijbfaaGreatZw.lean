import Derived.Test.YthoaidfpgijbfaaGreatZv
namespace Go.Proofs.YthoaidfpgijbfaaGreat.Ho
open Go.RowKit Go.WideShapes Go.ChangeShapes Go.ChangeAt Go.Joins Go.Deep
set_option maxRecDepth 100000 in
theorem lots_facts : joinedFacts Tryz.pinned.checked.prog 4 Tryz.f4 Rows.houseLotsSpec Rows.houseLotsRow = true := of_decide_eq_true (by kernel_rfl)
end Go.Proofs.YthoaidfpgijbfaaGreat.Ho
