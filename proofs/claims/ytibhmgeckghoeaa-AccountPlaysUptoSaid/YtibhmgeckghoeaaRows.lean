/-
  No cell of these rows narrows 'for every input' (looked for: loops, veiled, ifaces, maps, wideKeys, modest, calm, conditions, laid).
  DERIVED. THE GIVEN ROWS OF THIS SEAT. 4 by the template 'for every input the law returns true; each argument reads behind the call as it read before'; 0 by the template 'total and deterministic' (their statements: YtibhmgeckghoeaaTotals.lean).
  GIVEN WITH THE SEED: the statements are not yours to turn. If you find one false, say at which input.
  Laid BY PROGRAM, IN A SANDBOX (cutbox-rows.mjs): the forced cells as the released guide's own fill.sh prints them over the translation 34e6ee15276a8da2… (all of the seat's roots in one cut). By AI agents, Wed Nov 11 2026. No macro, syntax, notation, axiom, sorry.
-/
import Derived.Test.YtibhmgeckghoeaaChecked
import GoSem.Claim
import GoSem.ClaimJoined
import GoSem.ClaimMapViews
import Derived.JoinedTies
import Derived.KernelRfl
namespace Go.Proofs.Ytibhmgeckghoeaa
/- THE CELL 'sum', in the pinned program and in every row, IS THE sha256 OF THE DUMP (.gsa) THAT YtibhmgeckghoeaaProg.lean LOADS. Nothing in Lean hashes anything: it is a label: what it is worth is what the hold of that sum in a sandbox is worth. -/
noncomputable def Try.pinned : Pinned := { name := "ytibhmgeckghoeaa", sum := "34e6ee15276a8da2914f8d80c88ed785bdec16c8aae82cc955093e3e8c82a2d7", checked := Try.checked }
namespace Rows
def none {H : Type} : Left H := { results := [], args := [] }

/-- 'gavellaw19.AccountOrders': WHATEVER THE INPUT: true; the input reads as it did. -/
def accountOrdersSpec : ChangeSpec := { name := "accountOrders", fn := fun _ => fun
  | [d1, d2] => { results := [.lit (.bool true)], args := [d1, d2] }
  | _ => none }
def accountOrdersRow : OpenClaim := { program := "ytibhmgeckghoeaa", sum := "34e6ee15276a8da2914f8d80c88ed785bdec16c8aae82cc955093e3e8c82a2d7", func := "gavel/gavellaw19.AccountOrders", spec := "accountOrders", inPlace := ["maps.clone"], unfollowed := true, recurses := true, apart := false }
def AccountOrdersSaid : Prop := accountOrdersRow.holds Try.pinned (OpenSpec.ofChange accountOrdersSpec)

/-- ITS FALSE NEIGHBOUR: 'it returns false'. Refute it at one input. -/
def accountOrdersWrong : ChangeSpec := { name := "accountOrders", fn := fun _ => fun
  | [d1, d2] => { results := [.lit (.bool false)], args := [d1, d2] }
  | _ => none }
def AccountOrdersWrongFalsely : Prop := accountOrdersRow.holds Try.pinned (OpenSpec.ofChange accountOrdersWrong)

/-- 'gavellaw19.AccountPlays': WHATEVER THE INPUT: true; the input reads as it did. -/
def accountPlaysSpec : ChangeSpec := { name := "accountPlays", fn := fun _ => fun
  | [d1, d2] => { results := [.lit (.bool true)], args := [d1, d2] }
  | _ => none }
def accountPlaysRow : OpenClaim := { program := "ytibhmgeckghoeaa", sum := "34e6ee15276a8da2914f8d80c88ed785bdec16c8aae82cc955093e3e8c82a2d7", func := "gavel/gavellaw19.AccountPlays", spec := "accountPlays", inPlace := ["maps.clone"], unfollowed := true, recurses := true, apart := false }
def AccountPlaysSaid : Prop := accountPlaysRow.holds Try.pinned (OpenSpec.ofChange accountPlaysSpec)

/-- ITS FALSE NEIGHBOUR: 'it returns false'. Refute it at one input. -/
def accountPlaysWrong : ChangeSpec := { name := "accountPlays", fn := fun _ => fun
  | [d1, d2] => { results := [.lit (.bool false)], args := [d1, d2] }
  | _ => none }
def AccountPlaysWrongFalsely : Prop := accountPlaysRow.holds Try.pinned (OpenSpec.ofChange accountPlaysWrong)

/-- 'gavellaw19.AccountBudget': WHATEVER THE INPUT: true; the input reads as it did. -/
def accountBudgetSpec : ChangeSpec := { name := "accountBudget", fn := fun _ => fun
  | [d1, d2] => { results := [.lit (.bool true)], args := [d1, d2] }
  | _ => none }
def accountBudgetRow : OpenClaim := { program := "ytibhmgeckghoeaa", sum := "34e6ee15276a8da2914f8d80c88ed785bdec16c8aae82cc955093e3e8c82a2d7", func := "gavel/gavellaw19.AccountBudget", spec := "accountBudget", inPlace := ["maps.clone"], unfollowed := true, recurses := true, apart := false }
def AccountBudgetSaid : Prop := accountBudgetRow.holds Try.pinned (OpenSpec.ofChange accountBudgetSpec)

/-- ITS FALSE NEIGHBOUR: 'it returns false'. Refute it at one input. -/
def accountBudgetWrong : ChangeSpec := { name := "accountBudget", fn := fun _ => fun
  | [d1, d2] => { results := [.lit (.bool false)], args := [d1, d2] }
  | _ => none }
def AccountBudgetWrongFalsely : Prop := accountBudgetRow.holds Try.pinned (OpenSpec.ofChange accountBudgetWrong)

/-- 'gavellaw19.AccountNil': WHATEVER THE INPUT: true; the input reads as it did. -/
def accountNilSpec : ChangeSpec := { name := "accountNil", fn := fun _ => fun
  | [] => { results := [.lit (.bool true)], args := [] }
  | _ => none }
def accountNilRow : OpenClaim := { program := "ytibhmgeckghoeaa", sum := "34e6ee15276a8da2914f8d80c88ed785bdec16c8aae82cc955093e3e8c82a2d7", func := "gavel/gavellaw19.AccountNil", spec := "accountNil", inPlace := ["maps.clone"], unfollowed := true, recurses := true, apart := false }
def AccountNilSaid : Prop := accountNilRow.holds Try.pinned (OpenSpec.ofChange accountNilSpec)

/-- ITS FALSE NEIGHBOUR: 'it returns false'. Refute it at one input. -/
def accountNilWrong : ChangeSpec := { name := "accountNil", fn := fun _ => fun
  | [] => { results := [.lit (.bool false)], args := [] }
  | _ => none }
def AccountNilWrongFalsely : Prop := accountNilRow.holds Try.pinned (OpenSpec.ofChange accountNilWrong)

/- THE SECOND FORM. 'bulk': how many values and letters a reading holds, each counted each time it is reached (what is shared counts as often as it is met; a slice's spare places count too). A statement '..UptoSaid' is the law's where the arguments, and the package variables that the reading takes, are together of bulk at most 1048576: NARROWER than '..Said'. Prove '..Said' where nothing that the law and all that it calls make is longer than what came in: it says more and counts as full. Else prove '..UptoSaid'. A law counts once. -/
mutual
def uptoBulk {H : Type} : DataW H → Nat
  | .lit (.string bytes) => bytes.length + 1
  | .lit _ => 1
  | .nil => 1
  | .ptr d => uptoBulk d + 1
  | .slice elems spare => uptoBulkAll elems + uptoBulkAll spare + 1
  | .agg parts => uptoBulkAll parts + 1
  | .iface _ d => uptoBulk d + 1
  | .map entries => uptoBulkEntries entries + 1
  | .held _ => 1
def uptoBulkAll {H : Type} : List (DataW H) → Nat
  | [] => 0
  | d :: r => uptoBulk d + uptoBulkAll r
def uptoBulkEntries {H : Type} : List (Lit × DataW H) → Nat
  | [] => 0
  | x :: r => uptoBulkEntry x + uptoBulkEntries r
def uptoBulkEntry {H : Type} : Lit × DataW H → Nat
  | (.string bytes, d) => bytes.length + uptoBulk d + 1
  | (_, d) => uptoBulk d + 1
 end
def uptoSmall : (H : Type) → List (DataW H) → Bool := fun _ ds => decide (uptoBulkAll ds ≤ 1048576)
def OpenSpec.upto (s : _root_.Go.ChangeSpec) : _root_.Go.OpenSpec := { _root_.Go.OpenSpec.ofChange s with cond := some uptoSmall }

/-- 'gavellaw19.AccountOrders', WHERE WHAT IT READS IS OF BULK AT MOST 1048576: true; the input reads as it did. -/
def accountOrdersUptoRow : OpenClaim := { program := "ytibhmgeckghoeaa", sum := "34e6ee15276a8da2914f8d80c88ed785bdec16c8aae82cc955093e3e8c82a2d7", func := "gavel/gavellaw19.AccountOrders", spec := "accountOrders", inPlace := ["maps.clone"], unfollowed := true, recurses := true, apart := false, narrowed := true }
def AccountOrdersUptoSaid : Prop := accountOrdersUptoRow.holds Try.pinned (OpenSpec.upto accountOrdersSpec)

/-- 'gavellaw19.AccountPlays', WHERE WHAT IT READS IS OF BULK AT MOST 1048576: true; the input reads as it did. -/
def accountPlaysUptoRow : OpenClaim := { program := "ytibhmgeckghoeaa", sum := "34e6ee15276a8da2914f8d80c88ed785bdec16c8aae82cc955093e3e8c82a2d7", func := "gavel/gavellaw19.AccountPlays", spec := "accountPlays", inPlace := ["maps.clone"], unfollowed := true, recurses := true, apart := false, narrowed := true }
def AccountPlaysUptoSaid : Prop := accountPlaysUptoRow.holds Try.pinned (OpenSpec.upto accountPlaysSpec)

/-- 'gavellaw19.AccountBudget', WHERE WHAT IT READS IS OF BULK AT MOST 1048576: true; the input reads as it did. -/
def accountBudgetUptoRow : OpenClaim := { program := "ytibhmgeckghoeaa", sum := "34e6ee15276a8da2914f8d80c88ed785bdec16c8aae82cc955093e3e8c82a2d7", func := "gavel/gavellaw19.AccountBudget", spec := "accountBudget", inPlace := ["maps.clone"], unfollowed := true, recurses := true, apart := false, narrowed := true }
def AccountBudgetUptoSaid : Prop := accountBudgetUptoRow.holds Try.pinned (OpenSpec.upto accountBudgetSpec)

/-- 'gavellaw19.AccountNil', WHERE WHAT IT READS IS OF BULK AT MOST 1048576: true; the input reads as it did. -/
def accountNilUptoRow : OpenClaim := { program := "ytibhmgeckghoeaa", sum := "34e6ee15276a8da2914f8d80c88ed785bdec16c8aae82cc955093e3e8c82a2d7", func := "gavel/gavellaw19.AccountNil", spec := "accountNil", inPlace := ["maps.clone"], unfollowed := true, recurses := true, apart := false, narrowed := true }
def AccountNilUptoSaid : Prop := accountNilUptoRow.holds Try.pinned (OpenSpec.upto accountNilSpec)

end Rows
end Go.Proofs.Ytibhmgeckghoeaa
