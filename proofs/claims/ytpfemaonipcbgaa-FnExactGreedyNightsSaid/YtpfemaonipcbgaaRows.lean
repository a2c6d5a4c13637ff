/-
  No cell of these rows narrows 'for every input' (looked for: loops, veiled, ifaces, maps, wideKeys, modest, calm, conditions, laid).
  DERIVED. THE GIVEN ROWS OF THIS SEAT. 5 by the template 'for every input the law returns true; each argument reads behind the call as it read before'; 0 by the template 'total and deterministic' (their statements: YtpfemaonipcbgaaTotals.lean).
  GIVEN WITH THE SEED: the statements are not yours to turn. If you find one false, say at which input.
  Laid BY PROGRAM, IN A SANDBOX (cutbox-rows.mjs): the forced cells as the released guide's own fill.sh prints them over the translation 1e32c3cbc059dbae… (all of the seat's roots in one cut). By AI agents, Wed Nov 11 2026. No macro, syntax, notation, axiom, sorry.
-/
import Derived.Test.YtpfemaonipcbgaaChecked
import GoSem.Claim
import GoSem.ClaimJoined
import GoSem.ClaimMapViews
import Derived.JoinedTies
import Derived.KernelRfl
namespace Go.Proofs.Ytpfemaonipcbgaa
/- THE CELL 'sum', in the pinned program and in every row, IS THE sha256 OF THE DUMP (.gsa) THAT YtpfemaonipcbgaaProg.lean LOADS. Nothing in Lean hashes anything: it is a label: what it is worth is what the hold of that sum in a sandbox is worth. -/
noncomputable def Try.pinned : Pinned := { name := "ytpfemaonipcbgaa", sum := "1e32c3cbc059dbaedb606a69037019ac8785674f2ecf0608204cd1cac29aa3c8", checked := Try.checked }
namespace Rows
def none {H : Type} : Left H := { results := [], args := [] }

/-- 'laws.FnExactWholeEclipses': WHATEVER THE INPUT: true; the input reads as it did. -/
def fnExactWholeEclipsesSpec : ChangeSpec := { name := "fnExactWholeEclipses", fn := fun _ => fun
  | [d1, d2, d3] => { results := [.lit (.bool true)], args := [d1, d2, d3] }
  | _ => none }
def fnExactWholeEclipsesRow : OpenClaim := { program := "ytpfemaonipcbgaa", sum := "1e32c3cbc059dbaedb606a69037019ac8785674f2ecf0608204cd1cac29aa3c8", func := "loop.example/g01026/laws.FnExactWholeEclipses", spec := "fnExactWholeEclipses", apart := false }
def FnExactWholeEclipsesSaid : Prop := fnExactWholeEclipsesRow.holds Try.pinned (OpenSpec.ofChange fnExactWholeEclipsesSpec)

/-- ITS FALSE NEIGHBOUR: 'it returns false'. Refute it at one input. -/
def fnExactWholeEclipsesWrong : ChangeSpec := { name := "fnExactWholeEclipses", fn := fun _ => fun
  | [d1, d2, d3] => { results := [.lit (.bool false)], args := [d1, d2, d3] }
  | _ => none }
def FnExactWholeEclipsesWrongFalsely : Prop := fnExactWholeEclipsesRow.holds Try.pinned (OpenSpec.ofChange fnExactWholeEclipsesWrong)

/-- 'laws.FnExactShownBins': WHATEVER THE INPUT: true; the input reads as it did. -/
def fnExactShownBinsSpec : ChangeSpec := { name := "fnExactShownBins", fn := fun _ => fun
  | [d1, d2, d3] => { results := [.lit (.bool true)], args := [d1, d2, d3] }
  | _ => none }
def fnExactShownBinsRow : OpenClaim := { program := "ytpfemaonipcbgaa", sum := "1e32c3cbc059dbaedb606a69037019ac8785674f2ecf0608204cd1cac29aa3c8", func := "loop.example/g01026/laws.FnExactShownBins", spec := "fnExactShownBins", unfollowed := true, recurses := true, apart := false }
def FnExactShownBinsSaid : Prop := fnExactShownBinsRow.holds Try.pinned (OpenSpec.ofChange fnExactShownBinsSpec)

/-- ITS FALSE NEIGHBOUR: 'it returns false'. Refute it at one input. -/
def fnExactShownBinsWrong : ChangeSpec := { name := "fnExactShownBins", fn := fun _ => fun
  | [d1, d2, d3] => { results := [.lit (.bool false)], args := [d1, d2, d3] }
  | _ => none }
def FnExactShownBinsWrongFalsely : Prop := fnExactShownBinsRow.holds Try.pinned (OpenSpec.ofChange fnExactShownBinsWrong)

/-- 'laws.FnExactMissingBins': WHATEVER THE INPUT: true; the input reads as it did. -/
def fnExactMissingBinsSpec : ChangeSpec := { name := "fnExactMissingBins", fn := fun _ => fun
  | [d1, d2, d3] => { results := [.lit (.bool true)], args := [d1, d2, d3] }
  | _ => none }
def fnExactMissingBinsRow : OpenClaim := { program := "ytpfemaonipcbgaa", sum := "1e32c3cbc059dbaedb606a69037019ac8785674f2ecf0608204cd1cac29aa3c8", func := "loop.example/g01026/laws.FnExactMissingBins", spec := "fnExactMissingBins", unfollowed := true, recurses := true, apart := false }
def FnExactMissingBinsSaid : Prop := fnExactMissingBinsRow.holds Try.pinned (OpenSpec.ofChange fnExactMissingBinsSpec)

/-- ITS FALSE NEIGHBOUR: 'it returns false'. Refute it at one input. -/
def fnExactMissingBinsWrong : ChangeSpec := { name := "fnExactMissingBins", fn := fun _ => fun
  | [d1, d2, d3] => { results := [.lit (.bool false)], args := [d1, d2, d3] }
  | _ => none }
def FnExactMissingBinsWrongFalsely : Prop := fnExactMissingBinsRow.holds Try.pinned (OpenSpec.ofChange fnExactMissingBinsWrong)

/-- 'laws.FnExactFewestNights': WHATEVER THE INPUT: true; the input reads as it did. -/
def fnExactFewestNightsSpec : ChangeSpec := { name := "fnExactFewestNights", fn := fun _ => fun
  | [d1, d2, d3] => { results := [.lit (.bool true)], args := [d1, d2, d3] }
  | _ => none }
def fnExactFewestNightsRow : OpenClaim := { program := "ytpfemaonipcbgaa", sum := "1e32c3cbc059dbaedb606a69037019ac8785674f2ecf0608204cd1cac29aa3c8", func := "loop.example/g01026/laws.FnExactFewestNights", spec := "fnExactFewestNights", recurses := true, apart := false }
def FnExactFewestNightsSaid : Prop := fnExactFewestNightsRow.holds Try.pinned (OpenSpec.ofChange fnExactFewestNightsSpec)

/-- ITS FALSE NEIGHBOUR: 'it returns false'. Refute it at one input. -/
def fnExactFewestNightsWrong : ChangeSpec := { name := "fnExactFewestNights", fn := fun _ => fun
  | [d1, d2, d3] => { results := [.lit (.bool false)], args := [d1, d2, d3] }
  | _ => none }
def FnExactFewestNightsWrongFalsely : Prop := fnExactFewestNightsRow.holds Try.pinned (OpenSpec.ofChange fnExactFewestNightsWrong)

/-- 'laws.FnExactGreedyNights': WHATEVER THE INPUT: true; the input reads as it did. -/
def fnExactGreedyNightsSpec : ChangeSpec := { name := "fnExactGreedyNights", fn := fun _ => fun
  | [d1, d2, d3] => { results := [.lit (.bool true)], args := [d1, d2, d3] }
  | _ => none }
def fnExactGreedyNightsRow : OpenClaim := { program := "ytpfemaonipcbgaa", sum := "1e32c3cbc059dbaedb606a69037019ac8785674f2ecf0608204cd1cac29aa3c8", func := "loop.example/g01026/laws.FnExactGreedyNights", spec := "fnExactGreedyNights", unfollowed := true, recurses := true, apart := false }
def FnExactGreedyNightsSaid : Prop := fnExactGreedyNightsRow.holds Try.pinned (OpenSpec.ofChange fnExactGreedyNightsSpec)

/-- ITS FALSE NEIGHBOUR: 'it returns false'. Refute it at one input. -/
def fnExactGreedyNightsWrong : ChangeSpec := { name := "fnExactGreedyNights", fn := fun _ => fun
  | [d1, d2, d3] => { results := [.lit (.bool false)], args := [d1, d2, d3] }
  | _ => none }
def FnExactGreedyNightsWrongFalsely : Prop := fnExactGreedyNightsRow.holds Try.pinned (OpenSpec.ofChange fnExactGreedyNightsWrong)

/- THE SECOND FORM. 'bulk': how many values and letters a reading holds, each counted each time it is reached (what is shared counts as often as it is met; a slice's spare places count too). A statement '..UptoSaid' is the law's where the arguments, and the package variables that the reading takes, are together of bulk at most 1048576: NARROWER than '..Said'. Prove '..Said' where nothing that the law and all that it calls make is longer than what came in: it says more and counts as full. Else prove '..UptoSaid'. A law counts once. -/
mutual
def uptoBulk {H : Type} : DataW H → Nat
  | .lit (.string bytes) => bytes.length + 1
  | .lit _ => 1
  | .nil => 1
  | .ptr d => uptoBulk d + 1
  | .slice elems spare => uptoBulkAll elems + uptoBulkAll spare + 1
  | .agg parts => uptoBulkAll parts + 1
  | .iface _ d => uptoBulk d + 1
  | .map entries => uptoBulkEntries entries + 1
  | .held _ => 1
def uptoBulkAll {H : Type} : List (DataW H) → Nat
  | [] => 0
  | d :: r => uptoBulk d + uptoBulkAll r
def uptoBulkEntries {H : Type} : List (Lit × DataW H) → Nat
  | [] => 0
  | x :: r => uptoBulkEntry x + uptoBulkEntries r
def uptoBulkEntry {H : Type} : Lit × DataW H → Nat
  | (.string bytes, d) => bytes.length + uptoBulk d + 1
  | (_, d) => uptoBulk d + 1
 end
def uptoSmall : (H : Type) → List (DataW H) → Bool := fun _ ds => decide (uptoBulkAll ds ≤ 1048576)
def OpenSpec.upto (s : _root_.Go.ChangeSpec) : _root_.Go.OpenSpec := { _root_.Go.OpenSpec.ofChange s with cond := some uptoSmall }

/-- 'laws.FnExactWholeEclipses', WHERE WHAT IT READS IS OF BULK AT MOST 1048576: true; the input reads as it did. -/
def fnExactWholeEclipsesUptoRow : OpenClaim := { program := "ytpfemaonipcbgaa", sum := "1e32c3cbc059dbaedb606a69037019ac8785674f2ecf0608204cd1cac29aa3c8", func := "loop.example/g01026/laws.FnExactWholeEclipses", spec := "fnExactWholeEclipses", apart := false, narrowed := true }
def FnExactWholeEclipsesUptoSaid : Prop := fnExactWholeEclipsesUptoRow.holds Try.pinned (OpenSpec.upto fnExactWholeEclipsesSpec)

/-- 'laws.FnExactShownBins', WHERE WHAT IT READS IS OF BULK AT MOST 1048576: true; the input reads as it did. -/
def fnExactShownBinsUptoRow : OpenClaim := { program := "ytpfemaonipcbgaa", sum := "1e32c3cbc059dbaedb606a69037019ac8785674f2ecf0608204cd1cac29aa3c8", func := "loop.example/g01026/laws.FnExactShownBins", spec := "fnExactShownBins", unfollowed := true, recurses := true, apart := false, narrowed := true }
def FnExactShownBinsUptoSaid : Prop := fnExactShownBinsUptoRow.holds Try.pinned (OpenSpec.upto fnExactShownBinsSpec)

/-- 'laws.FnExactMissingBins', WHERE WHAT IT READS IS OF BULK AT MOST 1048576: true; the input reads as it did. -/
def fnExactMissingBinsUptoRow : OpenClaim := { program := "ytpfemaonipcbgaa", sum := "1e32c3cbc059dbaedb606a69037019ac8785674f2ecf0608204cd1cac29aa3c8", func := "loop.example/g01026/laws.FnExactMissingBins", spec := "fnExactMissingBins", unfollowed := true, recurses := true, apart := false, narrowed := true }
def FnExactMissingBinsUptoSaid : Prop := fnExactMissingBinsUptoRow.holds Try.pinned (OpenSpec.upto fnExactMissingBinsSpec)

/-- 'laws.FnExactFewestNights', WHERE WHAT IT READS IS OF BULK AT MOST 1048576: true; the input reads as it did. -/
def fnExactFewestNightsUptoRow : OpenClaim := { program := "ytpfemaonipcbgaa", sum := "1e32c3cbc059dbaedb606a69037019ac8785674f2ecf0608204cd1cac29aa3c8", func := "loop.example/g01026/laws.FnExactFewestNights", spec := "fnExactFewestNights", recurses := true, apart := false, narrowed := true }
def FnExactFewestNightsUptoSaid : Prop := fnExactFewestNightsUptoRow.holds Try.pinned (OpenSpec.upto fnExactFewestNightsSpec)

/-- 'laws.FnExactGreedyNights', WHERE WHAT IT READS IS OF BULK AT MOST 1048576: true; the input reads as it did. -/
def fnExactGreedyNightsUptoRow : OpenClaim := { program := "ytpfemaonipcbgaa", sum := "1e32c3cbc059dbaedb606a69037019ac8785674f2ecf0608204cd1cac29aa3c8", func := "loop.example/g01026/laws.FnExactGreedyNights", spec := "fnExactGreedyNights", unfollowed := true, recurses := true, apart := false, narrowed := true }
def FnExactGreedyNightsUptoSaid : Prop := fnExactGreedyNightsUptoRow.holds Try.pinned (OpenSpec.upto fnExactGreedyNightsSpec)

end Rows
end Go.Proofs.Ytpfemaonipcbgaa
