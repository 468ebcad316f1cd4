/- Stats: the document's line; turns. (Printed by tools/gen_stk.py.) -/
import Derived.Test.YtidejikolcgojaaStJ
namespace Go.Proofs.Ytidejikolcgojaa.St
open Go.RowKit Go.Shelf
open Go.Proofs.Ytidejikolcgojaa.Vb Go.Proofs.Ytidejikolcgojaa.Ac
attribute [local go_sem] run_fadd run_fsub run_fmul run_fdiv run_store_float

end Go.Proofs.Ytidejikolcgojaa.St
