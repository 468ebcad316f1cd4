/- Joined by program: HrV HrX HtI. -/
import Derived.Test.YtckdpejdnejhfaaGreatZm
import Derived.Deep.MidRow
/- House: stand. (Printed by tools/gen_hrv.py.) -/
set_option linter.all false
namespace Go.Proofs.YtckdpejdnejhfaaGreat.Ho
open Go.RowKit
open Go.Proofs.YtckdpejdnejhfaaGreat.Vb Go.Proofs.YtckdpejdnejhfaaGreat.Ac

def standE (a : Acc) (n v : Int) : Int := if a.mostH n < v then 8 else 0

end Go.Proofs.YtckdpejdnejhfaaGreat.Ho

/- House: a bid at a sealed lot. (Printed by tools/gen_hrx.py.) -/
namespace Go.Proofs.YtckdpejdnejhfaaGreat.Ho
open Go.RowKit
open Go.Proofs.YtckdpejdnejhfaaGreat.Vb Go.Proofs.YtckdpejdnejhfaaGreat.Ac

/-- what is known of a house, of one account and one lot -/
structure AtIt (W : World) (T : Nat → Part) (h pn pc : Nat) (va vl vb vs : Value) (K : Nat) (H : House) (bl ba ma : Nat → Nat) (i j : Nat) (a : Acc) (l : LotS) : Prop where
  house : HouseAt W T h pn pc va vl vb vs K H
  lrow : RowAt W (fun b => T b = .lots) 138 1 vl H.lots.length (ptrs bl H.lots.length)
  lots : ∀ n l, H.lots[n]? = some l → LotAt W T n (bl n) l
  arow : RowAt W (fun b => T b = .accs) 136 1 va H.accs.length (ptrs ba H.accs.length)
  accs : ∀ i a, H.accs[i]? = some a → AccAt W (ba i) (ma i) K a ∧ T (ba i) = .acc i ∧ T (ma i) = .acc i
  acc : H.accs[i]? = some a
  lot : H.lots[j]? = some l
theorem HouseAt.moves {W W' : World} {T : Nat → Part} (hb : Below W.heap.size W W') : Moves W T W' T := ⟨Chg.of _ hb, fun _ _ => rfl⟩
def sealedE (a : Acc) (l : LotS) (j : Int) (os : List Off) : Int := match singleO os with | none => 2 | some c => if c < l.put.floor then 7 else standE a j c
end Go.Proofs.YtckdpejdnejhfaaGreat.Ho

/- House: Run: orders, one behind the other. -/
namespace Go.Proofs.YtckdpejdnejhfaaGreat.Ho
open Go.RowKit
open Go.Proofs.YtckdpejdnejhfaaGreat.Vb Go.Proofs.YtckdpejdnejhfaaGreat.Ac

structure AnsR where
  (number err value : Int)
  deriving DecidableEq
def AnsR.cells (a : AnsR) : List Value := [.int .i64 a.number, .int .i64 a.err, .int .i64 a.value]
abbrev AnsR.agg (a : AnsR) : Value := .agg #[.int .i64 a.number, .int .i64 a.err, .int .i64 a.value]
end Go.Proofs.YtckdpejdnejhfaaGreat.Ho
