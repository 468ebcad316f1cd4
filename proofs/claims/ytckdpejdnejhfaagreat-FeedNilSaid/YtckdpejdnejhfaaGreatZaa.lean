/- Joined by program: PlainH PlainS Raised Single Low Core1 Core2 Core3 Core4 Core5 Core6 Core7 Core8 Core9. -/
import Derived.Test.YtckdpejdnejhfaaGreatZz
import Derived.Test.YtckdpejdnejhfaaGreatZt
import Derived.Test.YtckdpejdnejhfaaGreatZu
import Derived.Test.YtckdpejdnejhfaaGreatZs
import Derived.Test.YtckdpejdnejhfaaGreatZe
/- Plain: what a winner costs the others; with more offered for what it wins a buyer wins that, and pays the same. -/
set_option linter.all false
namespace Go.Proofs.YtckdpejdnejhfaaGreat.Vb

end Go.Proofs.YtckdpejdnejhfaaGreat.Vb

/- Plain: of one good, each buyer offering at most once, the costs' rule is the sealed one. -/
namespace Go.Proofs.YtckdpejdnejhfaaGreat.Vb

end Go.Proofs.YtckdpejdnejhfaaGreat.Vb

/- Law 17's own: raised. -/
namespace Go.Proofs.YtckdpejdnejhfaaGreat.Vb
open Go.RowKit

end Go.Proofs.YtckdpejdnejhfaaGreat.Vb

/- Law 17's own: single. -/
namespace Go.Proofs.YtckdpejdnejhfaaGreat.Vb
open Go.RowKit

end Go.Proofs.YtckdpejdnejhfaaGreat.Vb

/- offers.Lower. -/
namespace Go.Proofs.YtckdpejdnejhfaaGreat.Vb
open Go.RowKit

def lowL (c : Int) (l : List Off) : List Off := (l.filter (fun o => decide (c < o.c))).map (fun o => ⟨o.g, o.c - c⟩)
end Go.Proofs.YtckdpejdnejhfaaGreat.Vb

/- The sums of layer 18; what is won, as it lies in memory. -/
namespace Go.Proofs.YtckdpejdnejhfaaGreat.Vb
open Go.RowKit

end Go.Proofs.YtckdpejdnejhfaaGreat.Vb

/- What is won, as it lies in memory; core.of. -/
namespace Go.Proofs.YtckdpejdnejhfaaGreat.Vb
open Go.RowKit

/-- What winners bid. -/
def bidsC (n : Int) (bs : List (List Off)) : List Int := (bestC n bs).mapIdx fun i c => coinAt bs i c
/-- Who wins, of a choice. -/
def winB (cs : List Int) (i : Nat) : Bool := match cs[i]? with | some c => decide (0 ≤ c) | none => false
end Go.Proofs.YtckdpejdnejhfaaGreat.Vb

/- core: payment. -/
namespace Go.Proofs.YtckdpejdnejhfaaGreat.Vb
open Go.RowKit

end Go.Proofs.YtckdpejdnejhfaaGreat.Vb

/- core: lowered. -/
namespace Go.Proofs.YtckdpejdnejhfaaGreat.Vb
open Go.RowKit

/-- The lowered lists. -/
def lowB (n : Int) (bs : List (List Off)) (pay : List Int) : List (List Off) := bs.mapIdx fun i l => lowL ((bidsC n bs)[i]?.getD 0 - pay[i]?.getD 0) l
end Go.Proofs.YtckdpejdnejhfaaGreat.Vb

/- core: asked; clear.Without; what is lowered may be. -/
namespace Go.Proofs.YtckdpejdnejhfaaGreat.Vb
open Go.RowKit

end Go.Proofs.YtckdpejdnejhfaaGreat.Vb

/- core: least, Least, Lowered. -/
namespace Go.Proofs.YtckdpejdnejhfaaGreat.Vb
open Go.RowKit

/-- A winner's least payment. -/
def leastI (n : Int) (bs : List (List Off)) (pay : List Int) (i : Nat) : Int := max 0 (woW n (lowB n bs pay) i - (sumI pay - pay[i]?.getD 0))
end Go.Proofs.YtckdpejdnejhfaaGreat.Vb

/- core: Lowered; Blocks. -/
namespace Go.Proofs.YtckdpejdnejhfaaGreat.Vb
open Go.RowKit

end Go.Proofs.YtckdpejdnejhfaaGreat.Vb

/- core: Blocks. -/
namespace Go.Proofs.YtckdpejdnejhfaaGreat.Vb
open Go.RowKit

end Go.Proofs.YtckdpejdnejhfaaGreat.Vb

/- core: Tight. -/
namespace Go.Proofs.YtckdpejdnejhfaaGreat.Vb
open Go.RowKit

end Go.Proofs.YtckdpejdnejhfaaGreat.Vb
