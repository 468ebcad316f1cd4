/- Joined by program: Costs Gains Ref08a Ref08b Ref08c Ref08d Tab Ref17a Ref17b Ref17c Plain17 Ref17d Ref17e Ref17f Law1 Each1 Works Giv Given Stays All17 Works2 Asks CostsW. -/
import Derived.Test.YtckdpejdnejhfaaGreatZy
import Derived.Deep.OwnRows
import Derived.Deep.CutRange
import Derived.Deep.RegionWith
import Derived.Deep.RegionHeld3
import Derived.Test.YtckdpejdnejhfaaGreatZa
/- vcg.Costs. -/
set_option linter.all false
namespace Go.Proofs.YtckdpejdnejhfaaGreat.Vb
open Go.RowKit

/-- the coins of what a buyer wins -/
def coinAt (bs : List (List Off)) (i : Nat) (c : Int) : Int := if c < 0 then 0 else (((bs[i]?).getD [])[c.toNat]?.map (·.c)).getD 0
def payAt (n : Int) (bs : List (List Off)) (i : Nat) (c : Int) : Int := if c < 0 then 0 else coinAt bs i c - (W bs (allOf n) - woW n bs i)
/-- what each buyer pays -/
def paysC (n : Int) (bs : List (List Off)) : List Int := (bestC n bs).mapIdx fun i c => payAt n bs i c
end Go.Proofs.YtckdpejdnejhfaaGreat.Vb

/- vcg.Gains, vcg.Pivotal. -/
namespace Go.Proofs.YtckdpejdnejhfaaGreat.Vb
open Go.RowKit

end Go.Proofs.YtckdpejdnejhfaaGreat.Vb

/- The reference of layer 8: All, May, Check, SameOffers, SameInstance. -/
namespace Go.Proofs.YtckdpejdnejhfaaGreat.Vb
open Go.RowKit

end Go.Proofs.YtckdpejdnejhfaaGreat.Vb

/- The reference of layer 8: Check, Instance. -/
namespace Go.Proofs.YtckdpejdnejhfaaGreat.Vb
open Go.RowKit

end Go.Proofs.YtckdpejdnejhfaaGreat.Vb

/- The reference of layer 8: SameOffers, SameInstance, With. -/
namespace Go.Proofs.YtckdpejdnejhfaaGreat.Vb
open Go.RowKit

end Go.Proofs.YtckdpejdnejhfaaGreat.Vb

/- The reference of layer 8: With where it may be. -/
namespace Go.Proofs.YtckdpejdnejhfaaGreat.Vb
open Go.RowKit

end Go.Proofs.YtckdpejdnejhfaaGreat.Vb

/- The reference of layer 17: the table. -/
namespace Go.Proofs.YtckdpejdnejhfaaGreat.Vb
open Go.RowKit

end Go.Proofs.YtckdpejdnejhfaaGreat.Vb

/- The reference of layer 17: W, Without, Won. -/
namespace Go.Proofs.YtckdpejdnejhfaaGreat.Vb
open Go.RowKit

end Go.Proofs.YtckdpejdnejhfaaGreat.Vb

/- The reference of layer 17: Best. -/
namespace Go.Proofs.YtckdpejdnejhfaaGreat.Vb
open Go.RowKit

end Go.Proofs.YtckdpejdnejhfaaGreat.Vb

/- The reference of layer 17: Costs. -/
namespace Go.Proofs.YtckdpejdnejhfaaGreat.Vb
open Go.RowKit

section
variable {n : Int} {bs : List (List Off)} {w1 w2 w3 : World} {A1 : Option Addr} {c1 : Nat}
end

end Go.Proofs.YtckdpejdnejhfaaGreat.Vb

/- Plain: who wins nothing is not missed. -/
namespace Go.Proofs.YtckdpejdnejhfaaGreat.Vb
open Go.RowKit

end Go.Proofs.YtckdpejdnejhfaaGreat.Vb

/- The reference of layer 17: Costs refused; SamePaid; Pivotal. -/
namespace Go.Proofs.YtckdpejdnejhfaaGreat.Vb
open Go.RowKit

end Go.Proofs.YtckdpejdnejhfaaGreat.Vb

/- The reference of layer 17: Pivotal, Gains. -/
namespace Go.Proofs.YtckdpejdnejhfaaGreat.Vb
open Go.RowKit

end Go.Proofs.YtckdpejdnejhfaaGreat.Vb

/- The reference of layer 17: Gains. -/
namespace Go.Proofs.YtckdpejdnejhfaaGreat.Vb
open Go.RowKit

end Go.Proofs.YtckdpejdnejhfaaGreat.Vb

/- Law 17's own: num, great, Income. -/
namespace Go.Proofs.YtckdpejdnejhfaaGreat.Vb
open Go.RowKit

def sumI : List Int → Int
  | [] => 0
  | x :: l => x + sumI l
end Go.Proofs.YtckdpejdnejhfaaGreat.Vb

/- vcg.Each: what it tells (the going over itself apart). -/
namespace Go.Proofs.YtckdpejdnejhfaaGreat.Vb
open Go.RowKit

/-- where the iterator's two variables lie, and what they hold -/
structure EachAt (w : World) (lo pb pp : Nat) (n : Int) (bs : List (List Off)) : Prop where
  at_ : ∃ A1 c1 A2 c2 A3 c3, Blk w pb 370 #[.slice A1 bs.length c1, .int .i64 (W bs (allOf n)), .slice A2 bs.length c2] ∧ Blk w pp 340 #[.slice A3 bs.length c3] ∧
    w.ownsRow lo 3 1 (.slice A1 bs.length c1) bs.length (ints (bestC n bs)) ∧ w.ownsRow lo 2 1 (.slice A3 bs.length c3) bs.length (ints (paysC n bs))

end Go.Proofs.YtckdpejdnejhfaaGreat.Vb

/- Law 17's own: three, works. -/
namespace Go.Proofs.YtckdpejdnejhfaaGreat.Vb
open Go.RowKit

end Go.Proofs.YtckdpejdnejhfaaGreat.Vb

/- Law 17's own: what given makes. -/
namespace Go.Proofs.YtckdpejdnejhfaaGreat.Vb
open Go.RowKit

end Go.Proofs.YtckdpejdnejhfaaGreat.Vb

/- Law 17's own: given. -/
namespace Go.Proofs.YtckdpejdnejhfaaGreat.Vb
open Go.RowKit

end Go.Proofs.YtckdpejdnejhfaaGreat.Vb

/- Law 17's own: stays. -/
namespace Go.Proofs.YtckdpejdnejhfaaGreat.Vb
open Go.RowKit

end Go.Proofs.YtckdpejdnejhfaaGreat.Vb

/- Law 17: what is asked, whether the instance may be or not. -/
namespace Go.Proofs.YtckdpejdnejhfaaGreat.Vb
open Go.RowKit

section
variable (n : Int) (bs : List (List Off)) (v : Value) (R : Nat → Prop) (w : World)
end

end Go.Proofs.YtckdpejdnejhfaaGreat.Vb

/- Law 17's own: works. -/
namespace Go.Proofs.YtckdpejdnejhfaaGreat.Vb
open Go.RowKit

end Go.Proofs.YtckdpejdnejhfaaGreat.Vb

/- Law 17: VcgAsks, walked. -/
namespace Go.Proofs.YtckdpejdnejhfaaGreat.Vb
open Go.RowKit

end Go.Proofs.YtckdpejdnejhfaaGreat.Vb

/- Law 17: VcgCosts, walked. -/
namespace Go.Proofs.YtckdpejdnejhfaaGreat.Vb
open Go.RowKit

end Go.Proofs.YtckdpejdnejhfaaGreat.Vb
