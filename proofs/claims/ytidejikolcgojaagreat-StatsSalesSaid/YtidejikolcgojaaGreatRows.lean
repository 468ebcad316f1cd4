/-
  No cell of these rows narrows 'for every input' (looked for: loops, veiled, ifaces, maps, wideKeys, modest, calm, conditions, laid).
  DERIVED. THE GIVEN ROWS OF THIS SEAT. 3 by the template 'for every input the law returns true; each argument reads behind the call as it read before'; 0 by the template 'total and deterministic' (their statements: YtidejikolcgojaaGreatTotals.lean).
  GIVEN WITH THE SEED: the statements are not yours to turn. If you find one false, say at which input.
  Laid BY PROGRAM, IN A SANDBOX (cutbox-rows.mjs): the forced cells as the released guide's own fill.sh prints them over the translation c0a212385cc041c6… (all of the seat's roots in one cut). By AI agents, Wed Nov 11 2026. No macro, syntax, notation, axiom, sorry.
-/
import Derived.Test.YtidejikolcgojaaGreatChecked
import GoSem.Claim
import GoSem.ClaimJoined
import GoSem.ClaimMapViews
import Derived.JoinedTies
import Derived.KernelRfl
namespace Go.Proofs.YtidejikolcgojaaGreat
/- THE CELL 'sum', in the pinned program and in every row, IS THE sha256 OF THE DUMP (.gsa) THAT YtidejikolcgojaaGreatProg.lean LOADS. Nothing in Lean hashes anything: it is a label: what it is worth is what the hold of that sum in a sandbox is worth. -/
noncomputable def Tryz.pinned : Pinned := { name := "ytidejikolcgojaagreat", sum := "c0a212385cc041c66bf3ef93da31ece75d175e94f62da031aedf0b33bebaaf8c", checked := Tryz.checked }
namespace Rows
def none {H : Type} : Left H := { results := [], args := [] }

/-- 'gavellaw31.StatsFits': WHATEVER THE INPUT: true; the input reads as it did. -/
def statsFitsSpec : ChangeSpec := { name := "statsFits", fn := fun _ => fun
  | [d1, d2] => { results := [.lit (.bool true)], args := [d1, d2] }
  | _ => none }
def statsFitsRow : OpenClaim := { program := "ytidejikolcgojaagreat", sum := "c0a212385cc041c66bf3ef93da31ece75d175e94f62da031aedf0b33bebaaf8c", func := "gavel/gavellaw31.StatsFits", spec := "statsFits", inPlace := ["math.Float64frombits", "math.Float64bits", "math.sqrt", "math.archFloor", "math.archTrunc"], unfollowed := true, recurses := true, apart := false }
def StatsFitsSaid : Prop := statsFitsRow.holds Tryz.pinned (OpenSpec.ofChange statsFitsSpec)

/-- ITS FALSE NEIGHBOUR: 'it returns false'. Refute it at one input. -/
def statsFitsWrong : ChangeSpec := { name := "statsFits", fn := fun _ => fun
  | [d1, d2] => { results := [.lit (.bool false)], args := [d1, d2] }
  | _ => none }
def StatsFitsWrongFalsely : Prop := statsFitsRow.holds Tryz.pinned (OpenSpec.ofChange statsFitsWrong)

/-- 'gavellaw31.StatsRows': WHATEVER THE INPUT: true; the input reads as it did. -/
def statsRowsSpec : ChangeSpec := { name := "statsRows", fn := fun _ => fun
  | [d1, d2, d3] => { results := [.lit (.bool true)], args := [d1, d2, d3] }
  | _ => none }
def statsRowsRow : OpenClaim := { program := "ytidejikolcgojaagreat", sum := "c0a212385cc041c66bf3ef93da31ece75d175e94f62da031aedf0b33bebaaf8c", func := "gavel/gavellaw31.StatsRows", spec := "statsRows", inPlace := ["math.Float64frombits", "math.Float64bits", "math.sqrt", "math.archFloor", "math.archTrunc"], unfollowed := true, recurses := true, apart := false }
def StatsRowsSaid : Prop := statsRowsRow.holds Tryz.pinned (OpenSpec.ofChange statsRowsSpec)

/-- ITS FALSE NEIGHBOUR: 'it returns false'. Refute it at one input. -/
def statsRowsWrong : ChangeSpec := { name := "statsRows", fn := fun _ => fun
  | [d1, d2, d3] => { results := [.lit (.bool false)], args := [d1, d2, d3] }
  | _ => none }
def StatsRowsWrongFalsely : Prop := statsRowsRow.holds Tryz.pinned (OpenSpec.ofChange statsRowsWrong)

/-- 'gavellaw31.StatsSales': WHATEVER THE INPUT: true; the input reads as it did. -/
def statsSalesSpec : ChangeSpec := { name := "statsSales", fn := fun _ => fun
  | [d1, d2] => { results := [.lit (.bool true)], args := [d1, d2] }
  | _ => none }
def statsSalesRow : OpenClaim := { program := "ytidejikolcgojaagreat", sum := "c0a212385cc041c66bf3ef93da31ece75d175e94f62da031aedf0b33bebaaf8c", func := "gavel/gavellaw31.StatsSales", spec := "statsSales", inPlace := ["math.Float64frombits", "math.Float64bits", "math.sqrt", "math.archFloor", "math.archTrunc"], unfollowed := true, recurses := true, apart := false }
def StatsSalesSaid : Prop := statsSalesRow.holds Tryz.pinned (OpenSpec.ofChange statsSalesSpec)

/-- ITS FALSE NEIGHBOUR: 'it returns false'. Refute it at one input. -/
def statsSalesWrong : ChangeSpec := { name := "statsSales", fn := fun _ => fun
  | [d1, d2] => { results := [.lit (.bool false)], args := [d1, d2] }
  | _ => none }
def StatsSalesWrongFalsely : Prop := statsSalesRow.holds Tryz.pinned (OpenSpec.ofChange statsSalesWrong)

/- THE SECOND FORM. 'bulk': how many values and letters a reading holds, each counted each time it is reached (what is shared counts as often as it is met; a slice's spare places count too). A statement '..UptoSaid' is the law's where the arguments, and the package variables that the reading takes, are together of bulk at most 1048576: NARROWER than '..Said'. Prove '..Said' where nothing that the law and all that it calls make is longer than what came in: it says more and counts as full. Else prove '..UptoSaid'. A law counts once. -/
mutual
def uptoBulk {H : Type} : DataW H → Nat
  | .lit (.string bytes) => bytes.length + 1
  | .lit _ => 1
  | .nil => 1
  | .ptr d => uptoBulk d + 1
  | .slice elems spare => uptoBulkAll elems + uptoBulkAll spare + 1
  | .agg parts => uptoBulkAll parts + 1
  | .iface _ d => uptoBulk d + 1
  | .map entries => uptoBulkEntries entries + 1
  | .held _ => 1
def uptoBulkAll {H : Type} : List (DataW H) → Nat
  | [] => 0
  | d :: r => uptoBulk d + uptoBulkAll r
def uptoBulkEntries {H : Type} : List (Lit × DataW H) → Nat
  | [] => 0
  | x :: r => uptoBulkEntry x + uptoBulkEntries r
def uptoBulkEntry {H : Type} : Lit × DataW H → Nat
  | (.string bytes, d) => bytes.length + uptoBulk d + 1
  | (_, d) => uptoBulk d + 1
 end
def uptoSmall : (H : Type) → List (DataW H) → Bool := fun _ ds => decide (uptoBulkAll ds ≤ 1048576)
def OpenSpec.upto (s : _root_.Go.ChangeSpec) : _root_.Go.OpenSpec := { _root_.Go.OpenSpec.ofChange s with cond := some uptoSmall }

/-- 'gavellaw31.StatsFits', WHERE WHAT IT READS IS OF BULK AT MOST 1048576: true; the input reads as it did. -/
def statsFitsUptoRow : OpenClaim := { program := "ytidejikolcgojaagreat", sum := "c0a212385cc041c66bf3ef93da31ece75d175e94f62da031aedf0b33bebaaf8c", func := "gavel/gavellaw31.StatsFits", spec := "statsFits", inPlace := ["math.Float64frombits", "math.Float64bits", "math.sqrt", "math.archFloor", "math.archTrunc"], unfollowed := true, recurses := true, apart := false, narrowed := true }
def StatsFitsUptoSaid : Prop := statsFitsUptoRow.holds Tryz.pinned (OpenSpec.upto statsFitsSpec)

/-- 'gavellaw31.StatsRows', WHERE WHAT IT READS IS OF BULK AT MOST 1048576: true; the input reads as it did. -/
def statsRowsUptoRow : OpenClaim := { program := "ytidejikolcgojaagreat", sum := "c0a212385cc041c66bf3ef93da31ece75d175e94f62da031aedf0b33bebaaf8c", func := "gavel/gavellaw31.StatsRows", spec := "statsRows", inPlace := ["math.Float64frombits", "math.Float64bits", "math.sqrt", "math.archFloor", "math.archTrunc"], unfollowed := true, recurses := true, apart := false, narrowed := true }
def StatsRowsUptoSaid : Prop := statsRowsUptoRow.holds Tryz.pinned (OpenSpec.upto statsRowsSpec)

/-- 'gavellaw31.StatsSales', WHERE WHAT IT READS IS OF BULK AT MOST 1048576: true; the input reads as it did. -/
def statsSalesUptoRow : OpenClaim := { program := "ytidejikolcgojaagreat", sum := "c0a212385cc041c66bf3ef93da31ece75d175e94f62da031aedf0b33bebaaf8c", func := "gavel/gavellaw31.StatsSales", spec := "statsSales", inPlace := ["math.Float64frombits", "math.Float64bits", "math.sqrt", "math.archFloor", "math.archTrunc"], unfollowed := true, recurses := true, apart := false, narrowed := true }
def StatsSalesUptoSaid : Prop := statsSalesUptoRow.holds Tryz.pinned (OpenSpec.upto statsSalesSpec)

end Rows
end Go.Proofs.YtidejikolcgojaaGreat
