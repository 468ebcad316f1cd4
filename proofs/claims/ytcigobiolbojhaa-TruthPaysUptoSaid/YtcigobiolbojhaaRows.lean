/-
  No cell of these rows narrows 'for every input' (looked for: loops, veiled, ifaces, maps, wideKeys, modest, calm, conditions, laid).
  DERIVED. THE GIVEN ROWS OF THIS SEAT. 10 by the template 'for every input the law returns true; each argument reads behind the call as it read before'; 0 by the template 'total and deterministic' (their statements: YtcigobiolbojhaaTotals.lean).
  GIVEN WITH THE SEED: the statements are not yours to turn. If you find one false, say at which input.
  Laid BY PROGRAM, IN A SANDBOX (cutbox-rows.mjs): the forced cells as the released guide's own fill.sh prints them over the translation 2d87a8187fe31eac… (all of the seat's roots in one cut). By AI agents, Wed Nov 11 2026. No macro, syntax, notation, axiom, sorry.
-/
import Derived.Test.YtcigobiolbojhaaChecked
import GoSem.Claim
import GoSem.ClaimJoined
import GoSem.ClaimMapViews
import Derived.JoinedTies
import Derived.KernelRfl
namespace Go.Proofs.Ytcigobiolbojhaa
/- THE CELL 'sum', in the pinned program and in every row, IS THE sha256 OF THE DUMP (.gsa) THAT YtcigobiolbojhaaProg.lean LOADS. Nothing in Lean hashes anything: it is a label: what it is worth is what the hold of that sum in a sandbox is worth. -/
noncomputable def Try.pinned : Pinned := { name := "ytcigobiolbojhaa", sum := "2d87a8187fe31eacf9be7d01c6d55f037d563750ff38796b8614d51038730c36", checked := Try.checked }
namespace Rows
def none {H : Type} : Left H := { results := [], args := [] }

/-- 'gavellaw17.VcgEach': WHATEVER THE INPUT: true; the input reads as it did. -/
def vcgEachSpec : ChangeSpec := { name := "vcgEach", fn := fun _ => fun
  | [d1, d2] => { results := [.lit (.bool true)], args := [d1, d2] }
  | _ => none }
def vcgEachRow : OpenClaim := { program := "ytcigobiolbojhaa", sum := "2d87a8187fe31eacf9be7d01c6d55f037d563750ff38796b8614d51038730c36", func := "gavel/gavellaw17.VcgEach", spec := "vcgEach", unfollowed := true, recurses := true, plainKeys := false, apart := false }
def VcgEachSaid : Prop := vcgEachRow.holds Try.pinned (OpenSpec.ofChange vcgEachSpec)

/-- ITS FALSE NEIGHBOUR: 'it returns false'. Refute it at one input. -/
def vcgEachWrong : ChangeSpec := { name := "vcgEach", fn := fun _ => fun
  | [d1, d2] => { results := [.lit (.bool false)], args := [d1, d2] }
  | _ => none }
def VcgEachWrongFalsely : Prop := vcgEachRow.holds Try.pinned (OpenSpec.ofChange vcgEachWrong)

/-- 'gavellaw17.VcgCosts': WHATEVER THE INPUT: true; the input reads as it did. -/
def vcgCostsSpec : ChangeSpec := { name := "vcgCosts", fn := fun _ => fun
  | [d] => { results := [.lit (.bool true)], args := [d] }
  | _ => none }
def vcgCostsRow : OpenClaim := { program := "ytcigobiolbojhaa", sum := "2d87a8187fe31eacf9be7d01c6d55f037d563750ff38796b8614d51038730c36", func := "gavel/gavellaw17.VcgCosts", spec := "vcgCosts", unfollowed := true, recurses := true, plainKeys := false, apart := false }
def VcgCostsSaid : Prop := vcgCostsRow.holds Try.pinned (OpenSpec.ofChange vcgCostsSpec)

/-- ITS FALSE NEIGHBOUR: 'it returns false'. Refute it at one input. -/
def vcgCostsWrong : ChangeSpec := { name := "vcgCosts", fn := fun _ => fun
  | [d] => { results := [.lit (.bool false)], args := [d] }
  | _ => none }
def VcgCostsWrongFalsely : Prop := vcgCostsRow.holds Try.pinned (OpenSpec.ofChange vcgCostsWrong)

/-- 'gavellaw17.VcgAsks': WHATEVER THE INPUT: true; the input reads as it did. -/
def vcgAsksSpec : ChangeSpec := { name := "vcgAsks", fn := fun _ => fun
  | [d1, d2] => { results := [.lit (.bool true)], args := [d1, d2] }
  | _ => none }
def vcgAsksRow : OpenClaim := { program := "ytcigobiolbojhaa", sum := "2d87a8187fe31eacf9be7d01c6d55f037d563750ff38796b8614d51038730c36", func := "gavel/gavellaw17.VcgAsks", spec := "vcgAsks", unfollowed := true, recurses := true, plainKeys := false, apart := false }
def VcgAsksSaid : Prop := vcgAsksRow.holds Try.pinned (OpenSpec.ofChange vcgAsksSpec)

/-- ITS FALSE NEIGHBOUR: 'it returns false'. Refute it at one input. -/
def vcgAsksWrong : ChangeSpec := { name := "vcgAsks", fn := fun _ => fun
  | [d1, d2] => { results := [.lit (.bool false)], args := [d1, d2] }
  | _ => none }
def VcgAsksWrongFalsely : Prop := vcgAsksRow.holds Try.pinned (OpenSpec.ofChange vcgAsksWrong)

/-- 'gavellaw17.VcgHolds': WHATEVER THE INPUT: true; the input reads as it did. -/
def vcgHoldsSpec : ChangeSpec := { name := "vcgHolds", fn := fun _ => fun
  | [d1, d2, d3] => { results := [.lit (.bool true)], args := [d1, d2, d3] }
  | _ => none }
def vcgHoldsRow : OpenClaim := { program := "ytcigobiolbojhaa", sum := "2d87a8187fe31eacf9be7d01c6d55f037d563750ff38796b8614d51038730c36", func := "gavel/gavellaw17.VcgHolds", spec := "vcgHolds", unfollowed := true, recurses := true, plainKeys := false, apart := false }
def VcgHoldsSaid : Prop := vcgHoldsRow.holds Try.pinned (OpenSpec.ofChange vcgHoldsSpec)

/-- ITS FALSE NEIGHBOUR: 'it returns false'. Refute it at one input. -/
def vcgHoldsWrong : ChangeSpec := { name := "vcgHolds", fn := fun _ => fun
  | [d1, d2, d3] => { results := [.lit (.bool false)], args := [d1, d2, d3] }
  | _ => none }
def VcgHoldsWrongFalsely : Prop := vcgHoldsRow.holds Try.pinned (OpenSpec.ofChange vcgHoldsWrong)

/-- 'gavellaw18.CorePay': WHATEVER THE INPUT: true; the input reads as it did. -/
def corePaySpec : ChangeSpec := { name := "corePay", fn := fun _ => fun
  | [d1, d2] => { results := [.lit (.bool true)], args := [d1, d2] }
  | _ => none }
def corePayRow : OpenClaim := { program := "ytcigobiolbojhaa", sum := "2d87a8187fe31eacf9be7d01c6d55f037d563750ff38796b8614d51038730c36", func := "gavel/gavellaw18.CorePay", spec := "corePay", unfollowed := true, recurses := true, plainKeys := false, apart := false }
def CorePaySaid : Prop := corePayRow.holds Try.pinned (OpenSpec.ofChange corePaySpec)

/-- ITS FALSE NEIGHBOUR: 'it returns false'. Refute it at one input. -/
def corePayWrong : ChangeSpec := { name := "corePay", fn := fun _ => fun
  | [d1, d2] => { results := [.lit (.bool false)], args := [d1, d2] }
  | _ => none }
def CorePayWrongFalsely : Prop := corePayRow.holds Try.pinned (OpenSpec.ofChange corePayWrong)

/-- 'gavellaw18.CoreLess': WHATEVER THE INPUT: true; the input reads as it did. -/
def coreLessSpec : ChangeSpec := { name := "coreLess", fn := fun _ => fun
  | [d1, d2] => { results := [.lit (.bool true)], args := [d1, d2] }
  | _ => none }
def coreLessRow : OpenClaim := { program := "ytcigobiolbojhaa", sum := "2d87a8187fe31eacf9be7d01c6d55f037d563750ff38796b8614d51038730c36", func := "gavel/gavellaw18.CoreLess", spec := "coreLess", unfollowed := true, recurses := true, plainKeys := false, apart := false }
def CoreLessSaid : Prop := coreLessRow.holds Try.pinned (OpenSpec.ofChange coreLessSpec)

/-- ITS FALSE NEIGHBOUR: 'it returns false'. Refute it at one input. -/
def coreLessWrong : ChangeSpec := { name := "coreLess", fn := fun _ => fun
  | [d1, d2] => { results := [.lit (.bool false)], args := [d1, d2] }
  | _ => none }
def CoreLessWrongFalsely : Prop := coreLessRow.holds Try.pinned (OpenSpec.ofChange coreLessWrong)

/-- 'gavellaw18.CoreStands': WHATEVER THE INPUT: true; the input reads as it did. -/
def coreStandsSpec : ChangeSpec := { name := "coreStands", fn := fun _ => fun
  | [d] => { results := [.lit (.bool true)], args := [d] }
  | _ => none }
def coreStandsRow : OpenClaim := { program := "ytcigobiolbojhaa", sum := "2d87a8187fe31eacf9be7d01c6d55f037d563750ff38796b8614d51038730c36", func := "gavel/gavellaw18.CoreStands", spec := "coreStands", unfollowed := true, recurses := true, plainKeys := false, apart := false }
def CoreStandsSaid : Prop := coreStandsRow.holds Try.pinned (OpenSpec.ofChange coreStandsSpec)

/-- ITS FALSE NEIGHBOUR: 'it returns false'. Refute it at one input. -/
def coreStandsWrong : ChangeSpec := { name := "coreStands", fn := fun _ => fun
  | [d] => { results := [.lit (.bool false)], args := [d] }
  | _ => none }
def CoreStandsWrongFalsely : Prop := coreStandsRow.holds Try.pinned (OpenSpec.ofChange coreStandsWrong)

/-- 'gavellaw18.CoreAsks': WHATEVER THE INPUT: true; the input reads as it did. -/
def coreAsksSpec : ChangeSpec := { name := "coreAsks", fn := fun _ => fun
  | [d1, d2, d3] => { results := [.lit (.bool true)], args := [d1, d2, d3] }
  | _ => none }
def coreAsksRow : OpenClaim := { program := "ytcigobiolbojhaa", sum := "2d87a8187fe31eacf9be7d01c6d55f037d563750ff38796b8614d51038730c36", func := "gavel/gavellaw18.CoreAsks", spec := "coreAsks", unfollowed := true, recurses := true, plainKeys := false, apart := false }
def CoreAsksSaid : Prop := coreAsksRow.holds Try.pinned (OpenSpec.ofChange coreAsksSpec)

/-- ITS FALSE NEIGHBOUR: 'it returns false'. Refute it at one input. -/
def coreAsksWrong : ChangeSpec := { name := "coreAsks", fn := fun _ => fun
  | [d1, d2, d3] => { results := [.lit (.bool false)], args := [d1, d2, d3] }
  | _ => none }
def CoreAsksWrongFalsely : Prop := coreAsksRow.holds Try.pinned (OpenSpec.ofChange coreAsksWrong)

/-- 'gavellaw29.TruthShades': WHATEVER THE INPUT: true; the input reads as it did. -/
def truthShadesSpec : ChangeSpec := { name := "truthShades", fn := fun _ => fun
  | [d] => { results := [.lit (.bool true)], args := [d] }
  | _ => none }
def truthShadesRow : OpenClaim := { program := "ytcigobiolbojhaa", sum := "2d87a8187fe31eacf9be7d01c6d55f037d563750ff38796b8614d51038730c36", func := "gavel/gavellaw29.TruthShades", spec := "truthShades", unfollowed := true, recurses := true, plainKeys := false, apart := false }
def TruthShadesSaid : Prop := truthShadesRow.holds Try.pinned (OpenSpec.ofChange truthShadesSpec)

/-- ITS FALSE NEIGHBOUR: 'it returns false'. Refute it at one input. -/
def truthShadesWrong : ChangeSpec := { name := "truthShades", fn := fun _ => fun
  | [d] => { results := [.lit (.bool false)], args := [d] }
  | _ => none }
def TruthShadesWrongFalsely : Prop := truthShadesRow.holds Try.pinned (OpenSpec.ofChange truthShadesWrong)

/-- 'gavellaw29.TruthPays': WHATEVER THE INPUT: true; the input reads as it did. -/
def truthPaysSpec : ChangeSpec := { name := "truthPays", fn := fun _ => fun
  | [d1, d2] => { results := [.lit (.bool true)], args := [d1, d2] }
  | _ => none }
def truthPaysRow : OpenClaim := { program := "ytcigobiolbojhaa", sum := "2d87a8187fe31eacf9be7d01c6d55f037d563750ff38796b8614d51038730c36", func := "gavel/gavellaw29.TruthPays", spec := "truthPays", unfollowed := true, recurses := true, plainKeys := false, apart := false }
def TruthPaysSaid : Prop := truthPaysRow.holds Try.pinned (OpenSpec.ofChange truthPaysSpec)

/-- ITS FALSE NEIGHBOUR: 'it returns false'. Refute it at one input. -/
def truthPaysWrong : ChangeSpec := { name := "truthPays", fn := fun _ => fun
  | [d1, d2] => { results := [.lit (.bool false)], args := [d1, d2] }
  | _ => none }
def TruthPaysWrongFalsely : Prop := truthPaysRow.holds Try.pinned (OpenSpec.ofChange truthPaysWrong)

/- THE SECOND FORM. 'bulk': how many values and letters a reading holds, each counted each time it is reached (what is shared counts as often as it is met; a slice's spare places count too). A statement '..UptoSaid' is the law's where the arguments, and the package variables that the reading takes, are together of bulk at most 1048576: NARROWER than '..Said'. Prove '..Said' where nothing that the law and all that it calls make is longer than what came in: it says more and counts as full. Else prove '..UptoSaid'. A law counts once. -/
mutual
def uptoBulk {H : Type} : DataW H → Nat
  | .lit (.string bytes) => bytes.length + 1
  | .lit _ => 1
  | .nil => 1
  | .ptr d => uptoBulk d + 1
  | .slice elems spare => uptoBulkAll elems + uptoBulkAll spare + 1
  | .agg parts => uptoBulkAll parts + 1
  | .iface _ d => uptoBulk d + 1
  | .map entries => uptoBulkEntries entries + 1
  | .held _ => 1
def uptoBulkAll {H : Type} : List (DataW H) → Nat
  | [] => 0
  | d :: r => uptoBulk d + uptoBulkAll r
def uptoBulkEntries {H : Type} : List (Lit × DataW H) → Nat
  | [] => 0
  | x :: r => uptoBulkEntry x + uptoBulkEntries r
def uptoBulkEntry {H : Type} : Lit × DataW H → Nat
  | (.string bytes, d) => bytes.length + uptoBulk d + 1
  | (_, d) => uptoBulk d + 1
 end
def uptoSmall : (H : Type) → List (DataW H) → Bool := fun _ ds => decide (uptoBulkAll ds ≤ 1048576)
def OpenSpec.upto (s : _root_.Go.ChangeSpec) : _root_.Go.OpenSpec := { _root_.Go.OpenSpec.ofChange s with cond := some uptoSmall }

/-- 'gavellaw17.VcgEach', WHERE WHAT IT READS IS OF BULK AT MOST 1048576: true; the input reads as it did. -/
def vcgEachUptoRow : OpenClaim := { program := "ytcigobiolbojhaa", sum := "2d87a8187fe31eacf9be7d01c6d55f037d563750ff38796b8614d51038730c36", func := "gavel/gavellaw17.VcgEach", spec := "vcgEach", unfollowed := true, recurses := true, plainKeys := false, apart := false, narrowed := true }
def VcgEachUptoSaid : Prop := vcgEachUptoRow.holds Try.pinned (OpenSpec.upto vcgEachSpec)

/-- 'gavellaw17.VcgCosts', WHERE WHAT IT READS IS OF BULK AT MOST 1048576: true; the input reads as it did. -/
def vcgCostsUptoRow : OpenClaim := { program := "ytcigobiolbojhaa", sum := "2d87a8187fe31eacf9be7d01c6d55f037d563750ff38796b8614d51038730c36", func := "gavel/gavellaw17.VcgCosts", spec := "vcgCosts", unfollowed := true, recurses := true, plainKeys := false, apart := false, narrowed := true }
def VcgCostsUptoSaid : Prop := vcgCostsUptoRow.holds Try.pinned (OpenSpec.upto vcgCostsSpec)

/-- 'gavellaw17.VcgAsks', WHERE WHAT IT READS IS OF BULK AT MOST 1048576: true; the input reads as it did. -/
def vcgAsksUptoRow : OpenClaim := { program := "ytcigobiolbojhaa", sum := "2d87a8187fe31eacf9be7d01c6d55f037d563750ff38796b8614d51038730c36", func := "gavel/gavellaw17.VcgAsks", spec := "vcgAsks", unfollowed := true, recurses := true, plainKeys := false, apart := false, narrowed := true }
def VcgAsksUptoSaid : Prop := vcgAsksUptoRow.holds Try.pinned (OpenSpec.upto vcgAsksSpec)

/-- 'gavellaw17.VcgHolds', WHERE WHAT IT READS IS OF BULK AT MOST 1048576: true; the input reads as it did. -/
def vcgHoldsUptoRow : OpenClaim := { program := "ytcigobiolbojhaa", sum := "2d87a8187fe31eacf9be7d01c6d55f037d563750ff38796b8614d51038730c36", func := "gavel/gavellaw17.VcgHolds", spec := "vcgHolds", unfollowed := true, recurses := true, plainKeys := false, apart := false, narrowed := true }
def VcgHoldsUptoSaid : Prop := vcgHoldsUptoRow.holds Try.pinned (OpenSpec.upto vcgHoldsSpec)

/-- 'gavellaw18.CorePay', WHERE WHAT IT READS IS OF BULK AT MOST 1048576: true; the input reads as it did. -/
def corePayUptoRow : OpenClaim := { program := "ytcigobiolbojhaa", sum := "2d87a8187fe31eacf9be7d01c6d55f037d563750ff38796b8614d51038730c36", func := "gavel/gavellaw18.CorePay", spec := "corePay", unfollowed := true, recurses := true, plainKeys := false, apart := false, narrowed := true }
def CorePayUptoSaid : Prop := corePayUptoRow.holds Try.pinned (OpenSpec.upto corePaySpec)

/-- 'gavellaw18.CoreLess', WHERE WHAT IT READS IS OF BULK AT MOST 1048576: true; the input reads as it did. -/
def coreLessUptoRow : OpenClaim := { program := "ytcigobiolbojhaa", sum := "2d87a8187fe31eacf9be7d01c6d55f037d563750ff38796b8614d51038730c36", func := "gavel/gavellaw18.CoreLess", spec := "coreLess", unfollowed := true, recurses := true, plainKeys := false, apart := false, narrowed := true }
def CoreLessUptoSaid : Prop := coreLessUptoRow.holds Try.pinned (OpenSpec.upto coreLessSpec)

/-- 'gavellaw18.CoreStands', WHERE WHAT IT READS IS OF BULK AT MOST 1048576: true; the input reads as it did. -/
def coreStandsUptoRow : OpenClaim := { program := "ytcigobiolbojhaa", sum := "2d87a8187fe31eacf9be7d01c6d55f037d563750ff38796b8614d51038730c36", func := "gavel/gavellaw18.CoreStands", spec := "coreStands", unfollowed := true, recurses := true, plainKeys := false, apart := false, narrowed := true }
def CoreStandsUptoSaid : Prop := coreStandsUptoRow.holds Try.pinned (OpenSpec.upto coreStandsSpec)

/-- 'gavellaw18.CoreAsks', WHERE WHAT IT READS IS OF BULK AT MOST 1048576: true; the input reads as it did. -/
def coreAsksUptoRow : OpenClaim := { program := "ytcigobiolbojhaa", sum := "2d87a8187fe31eacf9be7d01c6d55f037d563750ff38796b8614d51038730c36", func := "gavel/gavellaw18.CoreAsks", spec := "coreAsks", unfollowed := true, recurses := true, plainKeys := false, apart := false, narrowed := true }
def CoreAsksUptoSaid : Prop := coreAsksUptoRow.holds Try.pinned (OpenSpec.upto coreAsksSpec)

/-- 'gavellaw29.TruthShades', WHERE WHAT IT READS IS OF BULK AT MOST 1048576: true; the input reads as it did. -/
def truthShadesUptoRow : OpenClaim := { program := "ytcigobiolbojhaa", sum := "2d87a8187fe31eacf9be7d01c6d55f037d563750ff38796b8614d51038730c36", func := "gavel/gavellaw29.TruthShades", spec := "truthShades", unfollowed := true, recurses := true, plainKeys := false, apart := false, narrowed := true }
def TruthShadesUptoSaid : Prop := truthShadesUptoRow.holds Try.pinned (OpenSpec.upto truthShadesSpec)

/-- 'gavellaw29.TruthPays', WHERE WHAT IT READS IS OF BULK AT MOST 1048576: true; the input reads as it did. -/
def truthPaysUptoRow : OpenClaim := { program := "ytcigobiolbojhaa", sum := "2d87a8187fe31eacf9be7d01c6d55f037d563750ff38796b8614d51038730c36", func := "gavel/gavellaw29.TruthPays", spec := "truthPays", unfollowed := true, recurses := true, plainKeys := false, apart := false, narrowed := true }
def TruthPaysUptoSaid : Prop := truthPaysUptoRow.holds Try.pinned (OpenSpec.upto truthPaysSpec)

end Rows
end Go.Proofs.Ytcigobiolbojhaa
