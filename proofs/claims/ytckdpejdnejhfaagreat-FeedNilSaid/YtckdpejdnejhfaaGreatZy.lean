/- Joined by program: UoA UoB UoE IrH IrI First Best Vcg1 Vcg2. -/
import Derived.Test.YtckdpejdnejhfaaGreatZx
import Derived.Test.YtckdpejdnejhfaaGreatZm
import Derived.Deep.OwnRows
import Derived.Test.YtckdpejdnejhfaaGreatZn
import Derived.Test.YtckdpejdnejhfaaGreatZp
import Derived.Test.YtckdpejdnejhfaaGreatZq
import Derived.Deep.CutRange
import Derived.Test.YtckdpejdnejhfaaGreatZt
/- House: units: may a bid be: formed, Check, wrong. -/
set_option linter.all false
namespace Go.Proofs.YtckdpejdnejhfaaGreat.Ho
open Go.RowKit
open Go.Proofs.YtckdpejdnejhfaaGreat.Vb Go.Proofs.YtckdpejdnejhfaaGreat.Ac

def numV (l : List Int) : List Value := l.map (Value.int .i64)
/-- coins that do not rise -/
def fallsB : Int → List Int → Bool
  | _, [] => true
  | last, c :: r => coinB c && decide (c ≤ last) && fallsB c r
def formedB (count fl : Int) (b : List Int) : Bool := decide (1 ≤ count) && decide (count ≤ 64) && coinB fl && decide (1 ≤ b.length) && decide ((b.length : Int) ≤ count) && fallsB 1099511627776 b
def unitE (count fl : Int) (b : List Int) : Int := if formedB count fl b = false then 2 else if (b.getLast?).getD 0 < fl then 7 else 0
structure UnitOk (count fl : Int) (b : List Int) : Prop where
  cnt : 1 ≤ count ∧ count ≤ 64
  floor : coin fl
  len : 1 ≤ b.length ∧ (b.length : Int) ≤ count
  coins : ∀ c ∈ b, coin c
  falls : b.Pairwise fun x y => y ≤ x
  least : ∀ c ∈ b, fl ≤ c
end Go.Proofs.YtckdpejdnejhfaaGreat.Ho

/- House: units: rows of bids in memory; wrong (nothing is), Order. -/
namespace Go.Proofs.YtckdpejdnejhfaaGreat.Ho
open Go.RowKit
open Go.Proofs.YtckdpejdnejhfaaGreat.Vb Go.Proofs.YtckdpejdnejhfaaGreat.Ac

def rowsV (vo : Nat → Value) (n : Nat) : List Value := (List.range n).map vo
/-- a list of bids in memory -/
structure BidsAt (W : World) (R : Nat → Prop) (v : Value) (vo : Nat → Value) (bids : List (List Int)) : Prop where
  row : Sl W R v bids.length 1 (rowsV vo bids.length)
  each : ∀ k b, bids[k]? = some b → Sl W R (vo k) b.length 1 (numV b)
structure OrdAt (W : World) (X : Nat → Prop) (g10 g7 : Nat) (bids : List (List Int)) : Prop where
  ok : Ac.Blk W g10 4 #[.bool true]
  box : ∃ g vo, Ac.Blk W g7 344 #[.slice (some ⟨g, 0, none⟩) bids.length bids.length] ∧ Ac.Blk W g 340 (rowsV vo bids.length).toArray ∧ X g ∧ ∀ k b, bids[k]? = some b → Sl W X (vo k) b.length 1 (numV b)
  inX : X g10 ∧ X g7
end Go.Proofs.YtckdpejdnejhfaaGreat.Ho

/- House: wants: the coins of offers without goods. -/
namespace Go.Proofs.YtckdpejdnejhfaaGreat.Ho
open Go.RowKit
open Go.Proofs.YtckdpejdnejhfaaGreat.Vb Go.Proofs.YtckdpejdnejhfaaGreat.Ac

def wantB (o : Off) : Bool := decide (o.g = 0) && coinB o.c
def wantsB (l : List Off) : Bool := l.all wantB
def wantsL (l : List Off) : List Int := l.map (·.c)
def sumI : List Int → Int
  | [] => 0
  | x :: r => x + sumI r
end Go.Proofs.YtckdpejdnejhfaaGreat.Ho

/- House: the greatest of offers. -/
namespace Go.Proofs.YtckdpejdnejhfaaGreat.Ho
open Go.RowKit
open Go.Proofs.YtckdpejdnejhfaaGreat.Vb Go.Proofs.YtckdpejdnejhfaaGreat.Ac

def stepM (m : Int) (o : Off) : Int := if m < o.c then o.c else m
def mostO (l : List Off) : Int := l.foldl stepM 0
end Go.Proofs.YtckdpejdnejhfaaGreat.Ho

/- House: a bid at a lot of packages. (Printed by tools/gen_irb.py.) -/
namespace Go.Proofs.YtckdpejdnejhfaaGreat.Ho
open Go.RowKit
open Go.Proofs.YtckdpejdnejhfaaGreat.Vb Go.Proofs.YtckdpejdnejhfaaGreat.Ac

def pkgE (l : LotS) (a : Acc) (i j : Int) (os : List Off) : Int :=
  if checkE l.put.count os ≠ 0 ∨ os.length = 0 then 2 else if placeN i l.stands = none ∧ 32 ≤ l.stands.length then 3 else standE a j (mostO os)
end Go.Proofs.YtckdpejdnejhfaaGreat.Ho

/- (*board).first from the first buyer on: the best choice. -/
namespace Go.Proofs.YtckdpejdnejhfaaGreat.Vb
open Go.RowKit

def ints (l : List Int) : List Value := l.map (Value.int .i64)

end Go.Proofs.YtckdpejdnejhfaaGreat.Vb

/- clear.Part, clear.Best, clear.Without. -/
namespace Go.Proofs.YtckdpejdnejhfaaGreat.Vb
open Go.RowKit

/-- the best choice of an instance -/
def bestC (n : Int) (bs : List (List Off)) : List Int := choose bs (allOf n)

end Go.Proofs.YtckdpejdnejhfaaGreat.Vb

/- vcg.Without; what is lost without a buyer. -/
namespace Go.Proofs.YtckdpejdnejhfaaGreat.Vb
open Go.RowKit

/-- W without a buyer; 0 beside an error -/
def woW (n : Int) (bs : List (List Off)) (i : Int) : Int := if withE n bs i [] = 0 then W (bs.set i.toNat []) (allOf n) else 0

/-- what is known of W without a buyer -/
def KnownL (n : Int) (bs : List (List Off)) (key val : Value) : Prop := ∃ i : Nat, i < bs.length ∧ bs.length ≤ 32 ∧ key = .int .i64 i ∧ val = .int .i64 (woW n bs i)
structure LostAt (w : World) (B b5 b1 b2 mm : Nat) (n : Int) (v : Value) (bs : List (List Off)) : Prop where
  c5 : w.cell? ⟨b5, 0, none⟩ = some (.map (some mm))
  x0 : w.cell? ⟨b1, 0, none⟩ = some (.int .i64 n)
  x1 : w.cell? ⟨b1, 1, none⟩ = some v
  w1 : w.cell? ⟨b2, 1, none⟩ = some (.int .i64 (W bs (allOf n)))
  buys : Buys w (· < B) v bs
  hB : B ≤ mm
  map : MapG Tryz.prog 3 2 w mm (KnownL n bs)
  ok : instE n bs = 0
section
variable {w w' : World} {B b5 b1 b2 mm : Nat} {n : Int} {v : Value} {bs : List (List Off)}
end

end Go.Proofs.YtckdpejdnejhfaaGreat.Vb

/- vcg.lost; slices.Clone of payments; vcg.Costs. -/
namespace Go.Proofs.YtckdpejdnejhfaaGreat.Vb
open Go.RowKit

end Go.Proofs.YtckdpejdnejhfaaGreat.Vb
