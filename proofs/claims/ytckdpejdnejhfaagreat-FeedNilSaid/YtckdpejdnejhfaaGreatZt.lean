/- Joined by program: With2 Without Spec Place Bw Clear Clear2 Blk Come MapI. -/
import Derived.Test.YtckdpejdnejhfaaGreatZs
import Derived.Test.YtckdpejdnejhfaaGreatZd
import Derived.DeepKeys4
import Derived.Test.YtckdpejdnejhfaaGreatZa
import Derived.Maps.OwnOps
import Derived.Maps.Views
import Derived.Maps.OwnSet
/- offers.With where it may be; offers.Without. -/
set_option linter.all false
namespace Go.Proofs.YtckdpejdnejhfaaGreat.Vb
open Go.RowKit

end Go.Proofs.YtckdpejdnejhfaaGreat.Vb

/- offers.Without. -/
namespace Go.Proofs.YtckdpejdnejhfaaGreat.Vb
open Go.RowKit

end Go.Proofs.YtckdpejdnejhfaaGreat.Vb

/- The greatest worth of a part: plain. -/
namespace Go.Proofs.YtckdpejdnejhfaaGreat.Vb

/-- one offer more looked at -/
def stepO (g : Nat → Int) (f : Nat) (best : Int) (o : Off) : Int := if andNot o.g f = 0 then max best (o.c + g (andNot f o.g)) else best
/-- W of the buyers bs, free goods f -/
def W : List (List Off) → Nat → Int
  | [], _ => 0
  | l :: bs, f => l.foldl (stepO (W bs) f) (W bs f)

/-- offers that may be -/
def Offer1 (o : Off) : Prop := 0 < o.g ∧ o.g < 1024 ∧ 1 ≤ o.c ∧ o.c ≤ 1099511627776
def Okb (bs : List (List Off)) : Prop := bs.length ≤ 32 ∧ ∀ l ∈ bs, l.length ≤ 8 ∧ ∀ o ∈ l, Offer1 o

end Go.Proofs.YtckdpejdnejhfaaGreat.Vb

/- The key of a part. -/
namespace Go.Proofs.YtckdpejdnejhfaaGreat.Vb
open Go.RowKit
open Go.Maps (Keyed)

end Go.Proofs.YtckdpejdnejhfaaGreat.Vb

/- (*board).w: what is known of parts is right, and stays so. -/
namespace Go.Proofs.YtckdpejdnejhfaaGreat.Vb
open Go.RowKit
open Go.Maps (Keyed)

/-- what is known of a part -/
def Known (bs : List (List Off)) (key val : Value) : Prop := ∃ k f : Nat, k ≤ 32 ∧ f < 1024 ∧ key = .agg #[.int .i64 k, .int .u32 f] ∧ val = .int .i64 (W (bs.drop k) f)
structure BoardAt (w : World) (B bb m : Nat) (n : Int) (v : Value) (bs : List (List Off)) : Prop where
  c0 : w.cell? ⟨bb, 0, none⟩ = some (.int .i64 n)
  c1 : w.cell? ⟨bb, 1, none⟩ = some v
  c2 : w.cell? ⟨bb, 2, none⟩ = some (.map (some m))
  buys : Buys w (· < B) v bs
  hB : B ≤ m
  map : MapG Tryz.prog 422 2 w m (Known bs)
  ok : Okb bs

section
variable {w w' : World} {B bb m : Nat} {n : Int} {v : Value} {bs : List (List Off)}
end

end Go.Proofs.YtckdpejdnejhfaaGreat.Vb

/- clear: of, whole, may, From, W. -/
namespace Go.Proofs.YtckdpejdnejhfaaGreat.Vb
open Go.RowKit

end Go.Proofs.YtckdpejdnejhfaaGreat.Vb

/- clear.From, clear.W. -/
namespace Go.Proofs.YtckdpejdnejhfaaGreat.Vb
open Go.RowKit

end Go.Proofs.YtckdpejdnejhfaaGreat.Vb

/- A block known whole; the best choice: plain. -/
namespace Go.Proofs.YtckdpejdnejhfaaGreat.Vb
open Go.RowKit

def Blk (w : World) (g : Nat) (t : TypeId) (cs : Array Value) : Prop := w.heap[g]? = some (.cells cs t (0, 0))
section
variable {w w' : World} {g : Nat} {t : TypeId} {cs : Array Value}
end

/-- the least offer's number with which the greatest worth can be had -/
def pickB (g : Nat → Int) (f : Nat) (left : Int) (o : Off) : Bool := decide (andNot o.g f = 0) && decide (o.c + g (andNot f o.g) = left)
def pickAt (g : Nat → Int) (f : Nat) (left : Int) : List Off → Option (Nat × Nat)
  | [] => none
  | o :: l => if pickB g f left o then some (0, o.g) else (pickAt g f left l).map fun p => (p.1 + 1, p.2)
/-- a buyer's number, and what is free behind it -/
def pickN (g : Nat → Int) (f : Nat) (left : Int) (l : List Off) : Int × Nat := match pickAt g f left l with | some (j, o) => ((j : Int), andNot f o) | none => (-1, f)
def choose : List (List Off) → Nat → List Int
  | [], _ => []
  | l :: bs, f => (pickN (W bs) f (W (l :: bs) f) l).1 :: choose bs (pickN (W bs) f (W (l :: bs) f) l).2

end Go.Proofs.YtckdpejdnejhfaaGreat.Vb

/- sealed.come. -/
namespace Go.Proofs.YtckdpejdnejhfaaGreat.Vb
open Go.RowKit

def nextC (floor : Int) (l : List Sec) (j : Nat) : Int := match bestK floor (j : Int) l l.length with | none => floor | some (_, c) => c
end Go.Proofs.YtckdpejdnejhfaaGreat.Vb

/- A map of ints to ints, of the call's own, as a function. -/
namespace Go.Proofs.YtckdpejdnejhfaaGreat.Vb
open Go.RowKit
open Go.Maps (Keyed)

section
variable {P : Program} {kt et t : TypeId} {w w' : World} {b n : Nat} {F : Int → Option Int}
end
end Go.Proofs.YtckdpejdnejhfaaGreat.Vb
