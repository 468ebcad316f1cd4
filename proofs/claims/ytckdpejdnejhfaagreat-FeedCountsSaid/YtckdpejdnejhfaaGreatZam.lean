/- Joined by program. -/
import Derived.Test.YtckdpejdnejhfaaGreatZah
set_option linter.all false
namespace Go.Proofs.YtckdpejdnejhfaaGreat
namespace Vb
open Go.RowKit Go.WideShapes Go.ChangeShapes Go.ChangeAt Go.Joins Go.Deep
theorem own:ownKnob Tryz.prog.godebug=none:=by kernel_rfl
theorem kids:Kids Tryz.prog (·<Tryz.prog.types.size):=kids_rows (by kernel_rfl) (by kernel_rfl)
theorem full:∀t e,t<Tryz.prog.types.size→Tryz.prog.underlying t=some (.slice e)→0<Tryz.prog.cellsOf e:=slices_full_of Tryz.prog (by kernel_rfl)
end Vb
end Go.Proofs.YtckdpejdnejhfaaGreat
