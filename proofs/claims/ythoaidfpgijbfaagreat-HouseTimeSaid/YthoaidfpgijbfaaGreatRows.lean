/-
  No cell of these rows narrows 'for every input' (looked for: loops, veiled, ifaces, maps, wideKeys, modest, calm, conditions, laid).
  DERIVED. THE GIVEN ROWS OF THIS SEAT. 5 by the template 'for every input the law returns true; each argument reads behind the call as it read before'; 0 by the template 'total and deterministic' (their statements: YthoaidfpgijbfaaGreatTotals.lean).
  GIVEN WITH THE SEED: the statements are not yours to turn. If you find one false, say at which input.
  Laid BY PROGRAM, IN A SANDBOX (cutbox-rows.mjs): the forced cells as the released guide's own fill.sh prints them over the translation f89343ef54bb21be… (all of the seat's roots in one cut). By AI agents, Wed Nov 11 2026. No macro, syntax, notation, axiom, sorry.
-/
import Derived.Test.YthoaidfpgijbfaaGreatChecked
import GoSem.Claim
import GoSem.ClaimJoined
import GoSem.ClaimMapViews
import Derived.JoinedTies
import Derived.KernelRfl
namespace Go.Proofs.YthoaidfpgijbfaaGreat
/- THE CELL 'sum', in the pinned program and in every row, IS THE sha256 OF THE DUMP (.gsa) THAT YthoaidfpgijbfaaGreatProg.lean LOADS. Nothing in Lean hashes anything: it is a label: what it is worth is what the hold of that sum in a sandbox is worth. -/
noncomputable def Tryz.pinned : Pinned := { name := "ythoaidfpgijbfaagreat", sum := "f89343ef54bb21be8177f71ea90e72e2fafb7ccfa684feb2af2ae6187a8ab6bb", checked := Tryz.checked }
namespace Rows
def none {H : Type} : Left H := { results := [], args := [] }

/-- 'gavellaw24.HouseSafe': WHATEVER THE INPUT: true; the input reads as it did. -/
def houseSafeSpec : ChangeSpec := { name := "houseSafe", fn := fun _ => fun
  | [d] => { results := [.lit (.bool true)], args := [d] }
  | _ => none }
def houseSafeRow : OpenClaim := { program := "ythoaidfpgijbfaagreat", sum := "f89343ef54bb21be8177f71ea90e72e2fafb7ccfa684feb2af2ae6187a8ab6bb", func := "gavel/gavellaw24.HouseSafe", spec := "houseSafe", inPlace := ["maps.clone"], unfollowed := true, recurses := true, plainKeys := false, apart := false }
def HouseSafeSaid : Prop := houseSafeRow.holds Tryz.pinned (OpenSpec.ofChange houseSafeSpec)

/-- ITS FALSE NEIGHBOUR: 'it returns false'. Refute it at one input. -/
def houseSafeWrong : ChangeSpec := { name := "houseSafe", fn := fun _ => fun
  | [d] => { results := [.lit (.bool false)], args := [d] }
  | _ => none }
def HouseSafeWrongFalsely : Prop := houseSafeRow.holds Tryz.pinned (OpenSpec.ofChange houseSafeWrong)

/-- 'gavellaw24.HouseLots': WHATEVER THE INPUT: true; the input reads as it did. -/
def houseLotsSpec : ChangeSpec := { name := "houseLots", fn := fun _ => fun
  | [d1, d2] => { results := [.lit (.bool true)], args := [d1, d2] }
  | _ => none }
def houseLotsRow : OpenClaim := { program := "ythoaidfpgijbfaagreat", sum := "f89343ef54bb21be8177f71ea90e72e2fafb7ccfa684feb2af2ae6187a8ab6bb", func := "gavel/gavellaw24.HouseLots", spec := "houseLots", inPlace := ["maps.clone"], unfollowed := true, recurses := true, plainKeys := false, apart := false }
def HouseLotsSaid : Prop := houseLotsRow.holds Tryz.pinned (OpenSpec.ofChange houseLotsSpec)

/-- ITS FALSE NEIGHBOUR: 'it returns false'. Refute it at one input. -/
def houseLotsWrong : ChangeSpec := { name := "houseLots", fn := fun _ => fun
  | [d1, d2] => { results := [.lit (.bool false)], args := [d1, d2] }
  | _ => none }
def HouseLotsWrongFalsely : Prop := houseLotsRow.holds Tryz.pinned (OpenSpec.ofChange houseLotsWrong)

/-- 'gavellaw24.HouseTime': WHATEVER THE INPUT: true; the input reads as it did. -/
def houseTimeSpec : ChangeSpec := { name := "houseTime", fn := fun _ => fun
  | [d1, d2] => { results := [.lit (.bool true)], args := [d1, d2] }
  | _ => none }
def houseTimeRow : OpenClaim := { program := "ythoaidfpgijbfaagreat", sum := "f89343ef54bb21be8177f71ea90e72e2fafb7ccfa684feb2af2ae6187a8ab6bb", func := "gavel/gavellaw24.HouseTime", spec := "houseTime", inPlace := ["maps.clone"], unfollowed := true, recurses := true, plainKeys := false, apart := false }
def HouseTimeSaid : Prop := houseTimeRow.holds Tryz.pinned (OpenSpec.ofChange houseTimeSpec)

/-- ITS FALSE NEIGHBOUR: 'it returns false'. Refute it at one input. -/
def houseTimeWrong : ChangeSpec := { name := "houseTime", fn := fun _ => fun
  | [d1, d2] => { results := [.lit (.bool false)], args := [d1, d2] }
  | _ => none }
def HouseTimeWrongFalsely : Prop := houseTimeRow.holds Tryz.pinned (OpenSpec.ofChange houseTimeWrong)

/-- 'gavellaw24.HouseBook': WHATEVER THE INPUT: true; the input reads as it did. -/
def houseBookSpec : ChangeSpec := { name := "houseBook", fn := fun _ => fun
  | [d1, d2] => { results := [.lit (.bool true)], args := [d1, d2] }
  | _ => none }
def houseBookRow : OpenClaim := { program := "ythoaidfpgijbfaagreat", sum := "f89343ef54bb21be8177f71ea90e72e2fafb7ccfa684feb2af2ae6187a8ab6bb", func := "gavel/gavellaw24.HouseBook", spec := "houseBook", inPlace := ["maps.clone"], unfollowed := true, recurses := true, plainKeys := false, apart := false }
def HouseBookSaid : Prop := houseBookRow.holds Tryz.pinned (OpenSpec.ofChange houseBookSpec)

/-- ITS FALSE NEIGHBOUR: 'it returns false'. Refute it at one input. -/
def houseBookWrong : ChangeSpec := { name := "houseBook", fn := fun _ => fun
  | [d1, d2] => { results := [.lit (.bool false)], args := [d1, d2] }
  | _ => none }
def HouseBookWrongFalsely : Prop := houseBookRow.holds Tryz.pinned (OpenSpec.ofChange houseBookWrong)

/-- 'gavellaw24.HousePlays': WHATEVER THE INPUT: true; the input reads as it did. -/
def housePlaysSpec : ChangeSpec := { name := "housePlays", fn := fun _ => fun
  | [d] => { results := [.lit (.bool true)], args := [d] }
  | _ => none }
def housePlaysRow : OpenClaim := { program := "ythoaidfpgijbfaagreat", sum := "f89343ef54bb21be8177f71ea90e72e2fafb7ccfa684feb2af2ae6187a8ab6bb", func := "gavel/gavellaw24.HousePlays", spec := "housePlays", inPlace := ["maps.clone"], unfollowed := true, recurses := true, plainKeys := false, apart := false }
def HousePlaysSaid : Prop := housePlaysRow.holds Tryz.pinned (OpenSpec.ofChange housePlaysSpec)

/-- ITS FALSE NEIGHBOUR: 'it returns false'. Refute it at one input. -/
def housePlaysWrong : ChangeSpec := { name := "housePlays", fn := fun _ => fun
  | [d] => { results := [.lit (.bool false)], args := [d] }
  | _ => none }
def HousePlaysWrongFalsely : Prop := housePlaysRow.holds Tryz.pinned (OpenSpec.ofChange housePlaysWrong)

/- THE SECOND FORM. 'bulk': how many values and letters a reading holds, each counted each time it is reached (what is shared counts as often as it is met; a slice's spare places count too). A statement '..UptoSaid' is the law's where the arguments, and the package variables that the reading takes, are together of bulk at most 1048576: NARROWER than '..Said'. Prove '..Said' where nothing that the law and all that it calls make is longer than what came in: it says more and counts as full. Else prove '..UptoSaid'. A law counts once. -/
mutual
def uptoBulk {H : Type} : DataW H → Nat
  | .lit (.string bytes) => bytes.length + 1
  | .lit _ => 1
  | .nil => 1
  | .ptr d => uptoBulk d + 1
  | .slice elems spare => uptoBulkAll elems + uptoBulkAll spare + 1
  | .agg parts => uptoBulkAll parts + 1
  | .iface _ d => uptoBulk d + 1
  | .map entries => uptoBulkEntries entries + 1
  | .held _ => 1
def uptoBulkAll {H : Type} : List (DataW H) → Nat
  | [] => 0
  | d :: r => uptoBulk d + uptoBulkAll r
def uptoBulkEntries {H : Type} : List (Lit × DataW H) → Nat
  | [] => 0
  | x :: r => uptoBulkEntry x + uptoBulkEntries r
def uptoBulkEntry {H : Type} : Lit × DataW H → Nat
  | (.string bytes, d) => bytes.length + uptoBulk d + 1
  | (_, d) => uptoBulk d + 1
 end
def uptoSmall : (H : Type) → List (DataW H) → Bool := fun _ ds => decide (uptoBulkAll ds ≤ 1048576)
def OpenSpec.upto (s : _root_.Go.ChangeSpec) : _root_.Go.OpenSpec := { _root_.Go.OpenSpec.ofChange s with cond := some uptoSmall }

/-- 'gavellaw24.HouseSafe', WHERE WHAT IT READS IS OF BULK AT MOST 1048576: true; the input reads as it did. -/
def houseSafeUptoRow : OpenClaim := { program := "ythoaidfpgijbfaagreat", sum := "f89343ef54bb21be8177f71ea90e72e2fafb7ccfa684feb2af2ae6187a8ab6bb", func := "gavel/gavellaw24.HouseSafe", spec := "houseSafe", inPlace := ["maps.clone"], unfollowed := true, recurses := true, plainKeys := false, apart := false, narrowed := true }
def HouseSafeUptoSaid : Prop := houseSafeUptoRow.holds Tryz.pinned (OpenSpec.upto houseSafeSpec)

/-- 'gavellaw24.HouseLots', WHERE WHAT IT READS IS OF BULK AT MOST 1048576: true; the input reads as it did. -/
def houseLotsUptoRow : OpenClaim := { program := "ythoaidfpgijbfaagreat", sum := "f89343ef54bb21be8177f71ea90e72e2fafb7ccfa684feb2af2ae6187a8ab6bb", func := "gavel/gavellaw24.HouseLots", spec := "houseLots", inPlace := ["maps.clone"], unfollowed := true, recurses := true, plainKeys := false, apart := false, narrowed := true }
def HouseLotsUptoSaid : Prop := houseLotsUptoRow.holds Tryz.pinned (OpenSpec.upto houseLotsSpec)

/-- 'gavellaw24.HouseTime', WHERE WHAT IT READS IS OF BULK AT MOST 1048576: true; the input reads as it did. -/
def houseTimeUptoRow : OpenClaim := { program := "ythoaidfpgijbfaagreat", sum := "f89343ef54bb21be8177f71ea90e72e2fafb7ccfa684feb2af2ae6187a8ab6bb", func := "gavel/gavellaw24.HouseTime", spec := "houseTime", inPlace := ["maps.clone"], unfollowed := true, recurses := true, plainKeys := false, apart := false, narrowed := true }
def HouseTimeUptoSaid : Prop := houseTimeUptoRow.holds Tryz.pinned (OpenSpec.upto houseTimeSpec)

/-- 'gavellaw24.HouseBook', WHERE WHAT IT READS IS OF BULK AT MOST 1048576: true; the input reads as it did. -/
def houseBookUptoRow : OpenClaim := { program := "ythoaidfpgijbfaagreat", sum := "f89343ef54bb21be8177f71ea90e72e2fafb7ccfa684feb2af2ae6187a8ab6bb", func := "gavel/gavellaw24.HouseBook", spec := "houseBook", inPlace := ["maps.clone"], unfollowed := true, recurses := true, plainKeys := false, apart := false, narrowed := true }
def HouseBookUptoSaid : Prop := houseBookUptoRow.holds Tryz.pinned (OpenSpec.upto houseBookSpec)

/-- 'gavellaw24.HousePlays', WHERE WHAT IT READS IS OF BULK AT MOST 1048576: true; the input reads as it did. -/
def housePlaysUptoRow : OpenClaim := { program := "ythoaidfpgijbfaagreat", sum := "f89343ef54bb21be8177f71ea90e72e2fafb7ccfa684feb2af2ae6187a8ab6bb", func := "gavel/gavellaw24.HousePlays", spec := "housePlays", inPlace := ["maps.clone"], unfollowed := true, recurses := true, plainKeys := false, apart := false, narrowed := true }
def HousePlaysUptoSaid : Prop := housePlaysUptoRow.holds Tryz.pinned (OpenSpec.upto housePlaysSpec)

end Rows
end Go.Proofs.YthoaidfpgijbfaaGreat
