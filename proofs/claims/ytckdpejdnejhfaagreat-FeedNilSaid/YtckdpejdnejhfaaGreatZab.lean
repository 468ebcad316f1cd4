/- Joined by program: PlainC PlainD PlainE Core10 Core11 Core12 Each2 Goes RangeV Iter18 Pay18. -/
import Derived.Test.YtckdpejdnejhfaaGreatZaa
import Derived.Test.YtckdpejdnejhfaaGreatZz
import Derived.RangeFuncNested
import Derived.RangeFuncBound
import Derived.RangeFuncCalls
import Derived.RangeFuncLeaves
import Derived.Shelf.Abstract
import Derived.Shelf.RegionOpen
import Derived.OwnWalkIn
import Derived.TacticsInMore
import Derived.LoopNIn
import Derived.LoopIn
/- Plain: the core's payments: nobody blocks at any step; none could pay less. -/
set_option linter.all false
namespace Go.Proofs.YtckdpejdnejhfaaGreat.Vb
open Go.RowKit

end Go.Proofs.YtckdpejdnejhfaaGreat.Vb

/- Plain: the core's payments, step by step. -/
namespace Go.Proofs.YtckdpejdnejhfaaGreat.Vb
open Go.RowKit

def payStep (n : Int) (bs : List (List Off)) (p : List Int) (k : Nat) : List Int := if winB (bestC n bs) k = true then p.set k (leastI n bs p k) else p
def payTo (n : Int) (bs : List (List Off)) : Nat → List Int
  | 0 => bidsC n bs
  | k + 1 => payStep n bs (payTo n bs k) k
section
variable {n : Int} {bs : List (List Off)}

end
end Go.Proofs.YtckdpejdnejhfaaGreat.Vb

/- Plain: whoever pays less is blocked; what all cost the others. -/
namespace Go.Proofs.YtckdpejdnejhfaaGreat.Vb
open Go.RowKit

section
variable {n : Int} {bs : List (List Off)}

end
end Go.Proofs.YtckdpejdnejhfaaGreat.Vb

/- core.Steps: what its closures share; one lowering. -/
namespace Go.Proofs.YtckdpejdnejhfaaGreat.Vb
open Go.RowKit

end Go.Proofs.YtckdpejdnejhfaaGreat.Vb

/- core.Steps: one lowering. -/
namespace Go.Proofs.YtckdpejdnejhfaaGreat.Vb
open Go.RowKit

end Go.Proofs.YtckdpejdnejhfaaGreat.Vb

/- core.Steps. -/
namespace Go.Proofs.YtckdpejdnejhfaaGreat.Vb
open Go.RowKit

end Go.Proofs.YtckdpejdnejhfaaGreat.Vb

/- vcg.Each's iterator: what it hands to yield. -/
namespace Go.Proofs.YtckdpejdnejhfaaGreat.Vb
open Go.RowKit Go.Shelf
attribute [local go_sem] Oper.semAt_some

end Go.Proofs.YtckdpejdnejhfaaGreat.Vb

/- Law 17's own: goes. -/
namespace Go.Proofs.YtckdpejdnejhfaaGreat.Vb
open Go.RowKit Go.Shelf
attribute [local go_sem] Oper.semAt_some

/-- between two rounds -/
structure GoesI (B bn m c' : Nat) (A' : Option Addr) (pv : Value) (L : List (Int × Int)) (ps : List Int) (leave : Int) (pre : List (Int × Int)) (W : World) : Prop where
  pre_ : pre <+: L
  p2 : W.cell? ⟨B, 2, none⟩ = some pv
  lv : W.cell? ⟨B + 1, 0, none⟩ = some (.int .i64 leave)
  rs : W.cell? ⟨B + 2, 0, none⟩ = some (.bool false)
  rf : W.frozen? ⟨B + 2, 0, none⟩ = false
  wh : W.cell? ⟨B + 3, 0, none⟩ = some (.slice A' L.length c')
  nn : W.cell? ⟨bn, 0, none⟩ = some (.int .i64 pre.length)
  nf : W.frozen? ⟨bn, 0, none⟩ = false
  row : Sl W (fun b => b ≠ bn ∧ b ≠ B + 2) (.slice A' L.length c') L.length 1 (ints (L.map (·.1)))
  pay : Sl W (fun b => b ≠ bn ∧ b ≠ B + 2) pv m 1 (ints ps)
end Go.Proofs.YtckdpejdnejhfaaGreat.Vb

/- A range over a function whose iterator tells what lies behind what it hands over: V x W, in the world of the yield. -/
namespace Go.Proofs.YtckdpejdnejhfaaGreat.Vb
open Go.RowKit Go.Shelf

/-- the loop's record at block b + 1, the rounds' deferred calls at block b -/
def RecAt (W : World) (b : Nat) (L : Loop) : Prop := W.heap[b + 1]? = some (.loop L) ∧ W.heap[b]? = some (.deferred (some []))
variable {F : Fence} {n : Nat} {P : Program}
end Go.Proofs.YtckdpejdnejhfaaGreat.Vb

/- core.Steps' iterator: whom it hands over, and what is paid then. -/
namespace Go.Proofs.YtckdpejdnejhfaaGreat.Vb
open Go.RowKit Go.Shelf
attribute [local go_sem] Oper.semAt_some

/-- the blocks from lo to hi are as they were -/
structure KeepR (lo hi : Nat) (W W' : World) : Prop where
  size : W.heap.size ≤ W'.heap.size
  same : ∀ i, lo ≤ i → i < hi → W'.heap[i]? = W.heap[i]?
end Go.Proofs.YtckdpejdnejhfaaGreat.Vb

/- core.Pay. -/
namespace Go.Proofs.YtckdpejdnejhfaaGreat.Vb
open Go.RowKit Go.Shelf
attribute [local go_sem] Oper.semAt_some

end Go.Proofs.YtckdpejdnejhfaaGreat.Vb
