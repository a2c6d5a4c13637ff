/-
  No cell of these rows narrows 'for every input' (looked for: loops, veiled, ifaces, maps, wideKeys, modest, calm, conditions, laid).
  DERIVED. THE GIVEN ROWS OF THIS SEAT. 9 by the template 'for every input the law returns true; each argument reads behind the call as it read before'; 0 by the template 'total and deterministic' (their statements: YthahkoclkjfkdaaTotals.lean).
  GIVEN WITH THE SEED: the statements are not yours to turn. If you find one false, say at which input.
  Laid BY PROGRAM, IN A SANDBOX (cutbox-rows.mjs): the forced cells as the released guide's own fill.sh prints them over the translation 50312c7738d52b37… (all of the seat's roots in one cut). By AI agents, Wed Nov 11 2026. No macro, syntax, notation, axiom, sorry.
-/
import Derived.Test.YthahkoclkjfkdaaChecked
import GoSem.Claim
import GoSem.ClaimJoined
import GoSem.ClaimMapViews
import Derived.JoinedTies
import Derived.KernelRfl
namespace Go.Proofs.Ythahkoclkjfkdaa
/- THE CELL 'sum', in the pinned program and in every row, IS THE sha256 OF THE DUMP (.gsa) THAT YthahkoclkjfkdaaProg.lean LOADS. Nothing in Lean hashes anything: it is a label: what it is worth is what the hold of that sum in a sandbox is worth. -/
noncomputable def Try.pinned : Pinned := { name := "ythahkoclkjfkdaa", sum := "50312c7738d52b37131ec81c18db2105d3f2437204c8aaf16327e39691e9782b", checked := Try.checked }
namespace Rows
def none {H : Type} : Left H := { results := [], args := [] }

/-- 'laws.FnExactValidWorths': WHATEVER THE INPUT: true; the input reads as it did. -/
def fnExactValidWorthsSpec : ChangeSpec := { name := "fnExactValidWorths", fn := fun _ => fun
  | [d] => { results := [.lit (.bool true)], args := [d] }
  | _ => none }
def fnExactValidWorthsRow : OpenClaim := { program := "ythahkoclkjfkdaa", sum := "50312c7738d52b37131ec81c18db2105d3f2437204c8aaf16327e39691e9782b", func := "loop.example/g01026/laws.FnExactValidWorths", spec := "fnExactValidWorths", unfollowed := true, recurses := true, apart := false }
def FnExactValidWorthsSaid : Prop := fnExactValidWorthsRow.holds Try.pinned (OpenSpec.ofChange fnExactValidWorthsSpec)

/-- ITS FALSE NEIGHBOUR: 'it returns false'. Refute it at one input. -/
def fnExactValidWorthsWrong : ChangeSpec := { name := "fnExactValidWorths", fn := fun _ => fun
  | [d] => { results := [.lit (.bool false)], args := [d] }
  | _ => none }
def FnExactValidWorthsWrongFalsely : Prop := fnExactValidWorthsRow.holds Try.pinned (OpenSpec.ofChange fnExactValidWorthsWrong)

/-- 'laws.FnExactProvesWorth': WHATEVER THE INPUT: true; the input reads as it did. -/
def fnExactProvesWorthSpec : ChangeSpec := { name := "fnExactProvesWorth", fn := fun _ => fun
  | [d1, d2, d3, d4] => { results := [.lit (.bool true)], args := [d1, d2, d3, d4] }
  | _ => none }
def fnExactProvesWorthRow : OpenClaim := { program := "ythahkoclkjfkdaa", sum := "50312c7738d52b37131ec81c18db2105d3f2437204c8aaf16327e39691e9782b", func := "loop.example/g01026/laws.FnExactProvesWorth", spec := "fnExactProvesWorth", unfollowed := true, recurses := true, apart := false }
def FnExactProvesWorthSaid : Prop := fnExactProvesWorthRow.holds Try.pinned (OpenSpec.ofChange fnExactProvesWorthSpec)

/-- ITS FALSE NEIGHBOUR: 'it returns false'. Refute it at one input. -/
def fnExactProvesWorthWrong : ChangeSpec := { name := "fnExactProvesWorth", fn := fun _ => fun
  | [d1, d2, d3, d4] => { results := [.lit (.bool false)], args := [d1, d2, d3, d4] }
  | _ => none }
def FnExactProvesWorthWrongFalsely : Prop := fnExactProvesWorthRow.holds Try.pinned (OpenSpec.ofChange fnExactProvesWorthWrong)

/-- 'laws.FnExactGreatestWorth': WHATEVER THE INPUT: true; the input reads as it did. -/
def fnExactGreatestWorthSpec : ChangeSpec := { name := "fnExactGreatestWorth", fn := fun _ => fun
  | [d] => { results := [.lit (.bool true)], args := [d] }
  | _ => none }
def fnExactGreatestWorthRow : OpenClaim := { program := "ythahkoclkjfkdaa", sum := "50312c7738d52b37131ec81c18db2105d3f2437204c8aaf16327e39691e9782b", func := "loop.example/g01026/laws.FnExactGreatestWorth", spec := "fnExactGreatestWorth", unfollowed := true, recurses := true, apart := false }
def FnExactGreatestWorthSaid : Prop := fnExactGreatestWorthRow.holds Try.pinned (OpenSpec.ofChange fnExactGreatestWorthSpec)

/-- ITS FALSE NEIGHBOUR: 'it returns false'. Refute it at one input. -/
def fnExactGreatestWorthWrong : ChangeSpec := { name := "fnExactGreatestWorth", fn := fun _ => fun
  | [d] => { results := [.lit (.bool false)], args := [d] }
  | _ => none }
def FnExactGreatestWorthWrongFalsely : Prop := fnExactGreatestWorthRow.holds Try.pinned (OpenSpec.ofChange fnExactGreatestWorthWrong)

/-- 'laws.FnExactWithoutStar': WHATEVER THE INPUT: true; the input reads as it did. -/
def fnExactWithoutStarSpec : ChangeSpec := { name := "fnExactWithoutStar", fn := fun _ => fun
  | [d1, d2] => { results := [.lit (.bool true)], args := [d1, d2] }
  | _ => none }
def fnExactWithoutStarRow : OpenClaim := { program := "ythahkoclkjfkdaa", sum := "50312c7738d52b37131ec81c18db2105d3f2437204c8aaf16327e39691e9782b", func := "loop.example/g01026/laws.FnExactWithoutStar", spec := "fnExactWithoutStar", unfollowed := true, recurses := true, apart := false }
def FnExactWithoutStarSaid : Prop := fnExactWithoutStarRow.holds Try.pinned (OpenSpec.ofChange fnExactWithoutStarSpec)

/-- ITS FALSE NEIGHBOUR: 'it returns false'. Refute it at one input. -/
def fnExactWithoutStarWrong : ChangeSpec := { name := "fnExactWithoutStar", fn := fun _ => fun
  | [d1, d2] => { results := [.lit (.bool false)], args := [d1, d2] }
  | _ => none }
def FnExactWithoutStarWrongFalsely : Prop := fnExactWithoutStarRow.holds Try.pinned (OpenSpec.ofChange fnExactWithoutStarWrong)

/-- 'laws.FnExactIsAssignment': WHATEVER THE INPUT: true; the input reads as it did. -/
def fnExactIsAssignmentSpec : ChangeSpec := { name := "fnExactIsAssignment", fn := fun _ => fun
  | [d1, d2] => { results := [.lit (.bool true)], args := [d1, d2] }
  | _ => none }
def fnExactIsAssignmentRow : OpenClaim := { program := "ythahkoclkjfkdaa", sum := "50312c7738d52b37131ec81c18db2105d3f2437204c8aaf16327e39691e9782b", func := "loop.example/g01026/laws.FnExactIsAssignment", spec := "fnExactIsAssignment", unfollowed := true, recurses := true, apart := false }
def FnExactIsAssignmentSaid : Prop := fnExactIsAssignmentRow.holds Try.pinned (OpenSpec.ofChange fnExactIsAssignmentSpec)

/-- ITS FALSE NEIGHBOUR: 'it returns false'. Refute it at one input. -/
def fnExactIsAssignmentWrong : ChangeSpec := { name := "fnExactIsAssignment", fn := fun _ => fun
  | [d1, d2] => { results := [.lit (.bool false)], args := [d1, d2] }
  | _ => none }
def FnExactIsAssignmentWrongFalsely : Prop := fnExactIsAssignmentRow.holds Try.pinned (OpenSpec.ofChange fnExactIsAssignmentWrong)

/-- 'laws.FnExactWorthOf': WHATEVER THE INPUT: true; the input reads as it did. -/
def fnExactWorthOfSpec : ChangeSpec := { name := "fnExactWorthOf", fn := fun _ => fun
  | [d1, d2] => { results := [.lit (.bool true)], args := [d1, d2] }
  | _ => none }
def fnExactWorthOfRow : OpenClaim := { program := "ythahkoclkjfkdaa", sum := "50312c7738d52b37131ec81c18db2105d3f2437204c8aaf16327e39691e9782b", func := "loop.example/g01026/laws.FnExactWorthOf", spec := "fnExactWorthOf", unfollowed := true, recurses := true, apart := false }
def FnExactWorthOfSaid : Prop := fnExactWorthOfRow.holds Try.pinned (OpenSpec.ofChange fnExactWorthOfSpec)

/-- ITS FALSE NEIGHBOUR: 'it returns false'. Refute it at one input. -/
def fnExactWorthOfWrong : ChangeSpec := { name := "fnExactWorthOf", fn := fun _ => fun
  | [d1, d2] => { results := [.lit (.bool false)], args := [d1, d2] }
  | _ => none }
def FnExactWorthOfWrongFalsely : Prop := fnExactWorthOfRow.holds Try.pinned (OpenSpec.ofChange fnExactWorthOfWrong)

/-- 'laws.FnExactPricesOf': WHATEVER THE INPUT: true; the input reads as it did. -/
def fnExactPricesOfSpec : ChangeSpec := { name := "fnExactPricesOf", fn := fun _ => fun
  | [d] => { results := [.lit (.bool true)], args := [d] }
  | _ => none }
def fnExactPricesOfRow : OpenClaim := { program := "ythahkoclkjfkdaa", sum := "50312c7738d52b37131ec81c18db2105d3f2437204c8aaf16327e39691e9782b", func := "loop.example/g01026/laws.FnExactPricesOf", spec := "fnExactPricesOf", unfollowed := true, recurses := true, apart := false }
def FnExactPricesOfSaid : Prop := fnExactPricesOfRow.holds Try.pinned (OpenSpec.ofChange fnExactPricesOfSpec)

/-- ITS FALSE NEIGHBOUR: 'it returns false'. Refute it at one input. -/
def fnExactPricesOfWrong : ChangeSpec := { name := "fnExactPricesOf", fn := fun _ => fun
  | [d] => { results := [.lit (.bool false)], args := [d] }
  | _ => none }
def FnExactPricesOfWrongFalsely : Prop := fnExactPricesOfRow.holds Try.pinned (OpenSpec.ofChange fnExactPricesOfWrong)

/-- 'laws.FnExactBestAssignment': WHATEVER THE INPUT: true; the input reads as it did. -/
def fnExactBestAssignmentSpec : ChangeSpec := { name := "fnExactBestAssignment", fn := fun _ => fun
  | [d] => { results := [.lit (.bool true)], args := [d] }
  | _ => none }
def fnExactBestAssignmentRow : OpenClaim := { program := "ythahkoclkjfkdaa", sum := "50312c7738d52b37131ec81c18db2105d3f2437204c8aaf16327e39691e9782b", func := "loop.example/g01026/laws.FnExactBestAssignment", spec := "fnExactBestAssignment", unfollowed := true, recurses := true, apart := false }
def FnExactBestAssignmentSaid : Prop := fnExactBestAssignmentRow.holds Try.pinned (OpenSpec.ofChange fnExactBestAssignmentSpec)

/-- ITS FALSE NEIGHBOUR: 'it returns false'. Refute it at one input. -/
def fnExactBestAssignmentWrong : ChangeSpec := { name := "fnExactBestAssignment", fn := fun _ => fun
  | [d] => { results := [.lit (.bool false)], args := [d] }
  | _ => none }
def FnExactBestAssignmentWrongFalsely : Prop := fnExactBestAssignmentRow.holds Try.pinned (OpenSpec.ofChange fnExactBestAssignmentWrong)

/-- 'laws.FnExactGreedyAssignment': WHATEVER THE INPUT: true; the input reads as it did. -/
def fnExactGreedyAssignmentSpec : ChangeSpec := { name := "fnExactGreedyAssignment", fn := fun _ => fun
  | [d] => { results := [.lit (.bool true)], args := [d] }
  | _ => none }
def fnExactGreedyAssignmentRow : OpenClaim := { program := "ythahkoclkjfkdaa", sum := "50312c7738d52b37131ec81c18db2105d3f2437204c8aaf16327e39691e9782b", func := "loop.example/g01026/laws.FnExactGreedyAssignment", spec := "fnExactGreedyAssignment", unfollowed := true, recurses := true, apart := false }
def FnExactGreedyAssignmentSaid : Prop := fnExactGreedyAssignmentRow.holds Try.pinned (OpenSpec.ofChange fnExactGreedyAssignmentSpec)

/-- ITS FALSE NEIGHBOUR: 'it returns false'. Refute it at one input. -/
def fnExactGreedyAssignmentWrong : ChangeSpec := { name := "fnExactGreedyAssignment", fn := fun _ => fun
  | [d] => { results := [.lit (.bool false)], args := [d] }
  | _ => none }
def FnExactGreedyAssignmentWrongFalsely : Prop := fnExactGreedyAssignmentRow.holds Try.pinned (OpenSpec.ofChange fnExactGreedyAssignmentWrong)

/- THE SECOND FORM. 'bulk': how many values and letters a reading holds, each counted each time it is reached (what is shared counts as often as it is met; a slice's spare places count too). A statement '..UptoSaid' is the law's where the arguments, and the package variables that the reading takes, are together of bulk at most 1048576: NARROWER than '..Said'. Prove '..Said' where nothing that the law and all that it calls make is longer than what came in: it says more and counts as full. Else prove '..UptoSaid'. A law counts once. -/
mutual
def uptoBulk {H : Type} : DataW H → Nat
  | .lit (.string bytes) => bytes.length + 1
  | .lit _ => 1
  | .nil => 1
  | .ptr d => uptoBulk d + 1
  | .slice elems spare => uptoBulkAll elems + uptoBulkAll spare + 1
  | .agg parts => uptoBulkAll parts + 1
  | .iface _ d => uptoBulk d + 1
  | .map entries => uptoBulkEntries entries + 1
  | .held _ => 1
def uptoBulkAll {H : Type} : List (DataW H) → Nat
  | [] => 0
  | d :: r => uptoBulk d + uptoBulkAll r
def uptoBulkEntries {H : Type} : List (Lit × DataW H) → Nat
  | [] => 0
  | x :: r => uptoBulkEntry x + uptoBulkEntries r
def uptoBulkEntry {H : Type} : Lit × DataW H → Nat
  | (.string bytes, d) => bytes.length + uptoBulk d + 1
  | (_, d) => uptoBulk d + 1
 end
def uptoSmall : (H : Type) → List (DataW H) → Bool := fun _ ds => decide (uptoBulkAll ds ≤ 1048576)
def OpenSpec.upto (s : _root_.Go.ChangeSpec) : _root_.Go.OpenSpec := { _root_.Go.OpenSpec.ofChange s with cond := some uptoSmall }

/-- 'laws.FnExactValidWorths', WHERE WHAT IT READS IS OF BULK AT MOST 1048576: true; the input reads as it did. -/
def fnExactValidWorthsUptoRow : OpenClaim := { program := "ythahkoclkjfkdaa", sum := "50312c7738d52b37131ec81c18db2105d3f2437204c8aaf16327e39691e9782b", func := "loop.example/g01026/laws.FnExactValidWorths", spec := "fnExactValidWorths", unfollowed := true, recurses := true, apart := false, narrowed := true }
def FnExactValidWorthsUptoSaid : Prop := fnExactValidWorthsUptoRow.holds Try.pinned (OpenSpec.upto fnExactValidWorthsSpec)

/-- 'laws.FnExactProvesWorth', WHERE WHAT IT READS IS OF BULK AT MOST 1048576: true; the input reads as it did. -/
def fnExactProvesWorthUptoRow : OpenClaim := { program := "ythahkoclkjfkdaa", sum := "50312c7738d52b37131ec81c18db2105d3f2437204c8aaf16327e39691e9782b", func := "loop.example/g01026/laws.FnExactProvesWorth", spec := "fnExactProvesWorth", unfollowed := true, recurses := true, apart := false, narrowed := true }
def FnExactProvesWorthUptoSaid : Prop := fnExactProvesWorthUptoRow.holds Try.pinned (OpenSpec.upto fnExactProvesWorthSpec)

/-- 'laws.FnExactGreatestWorth', WHERE WHAT IT READS IS OF BULK AT MOST 1048576: true; the input reads as it did. -/
def fnExactGreatestWorthUptoRow : OpenClaim := { program := "ythahkoclkjfkdaa", sum := "50312c7738d52b37131ec81c18db2105d3f2437204c8aaf16327e39691e9782b", func := "loop.example/g01026/laws.FnExactGreatestWorth", spec := "fnExactGreatestWorth", unfollowed := true, recurses := true, apart := false, narrowed := true }
def FnExactGreatestWorthUptoSaid : Prop := fnExactGreatestWorthUptoRow.holds Try.pinned (OpenSpec.upto fnExactGreatestWorthSpec)

/-- 'laws.FnExactWithoutStar', WHERE WHAT IT READS IS OF BULK AT MOST 1048576: true; the input reads as it did. -/
def fnExactWithoutStarUptoRow : OpenClaim := { program := "ythahkoclkjfkdaa", sum := "50312c7738d52b37131ec81c18db2105d3f2437204c8aaf16327e39691e9782b", func := "loop.example/g01026/laws.FnExactWithoutStar", spec := "fnExactWithoutStar", unfollowed := true, recurses := true, apart := false, narrowed := true }
def FnExactWithoutStarUptoSaid : Prop := fnExactWithoutStarUptoRow.holds Try.pinned (OpenSpec.upto fnExactWithoutStarSpec)

/-- 'laws.FnExactIsAssignment', WHERE WHAT IT READS IS OF BULK AT MOST 1048576: true; the input reads as it did. -/
def fnExactIsAssignmentUptoRow : OpenClaim := { program := "ythahkoclkjfkdaa", sum := "50312c7738d52b37131ec81c18db2105d3f2437204c8aaf16327e39691e9782b", func := "loop.example/g01026/laws.FnExactIsAssignment", spec := "fnExactIsAssignment", unfollowed := true, recurses := true, apart := false, narrowed := true }
def FnExactIsAssignmentUptoSaid : Prop := fnExactIsAssignmentUptoRow.holds Try.pinned (OpenSpec.upto fnExactIsAssignmentSpec)

/-- 'laws.FnExactWorthOf', WHERE WHAT IT READS IS OF BULK AT MOST 1048576: true; the input reads as it did. -/
def fnExactWorthOfUptoRow : OpenClaim := { program := "ythahkoclkjfkdaa", sum := "50312c7738d52b37131ec81c18db2105d3f2437204c8aaf16327e39691e9782b", func := "loop.example/g01026/laws.FnExactWorthOf", spec := "fnExactWorthOf", unfollowed := true, recurses := true, apart := false, narrowed := true }
def FnExactWorthOfUptoSaid : Prop := fnExactWorthOfUptoRow.holds Try.pinned (OpenSpec.upto fnExactWorthOfSpec)

/-- 'laws.FnExactPricesOf', WHERE WHAT IT READS IS OF BULK AT MOST 1048576: true; the input reads as it did. -/
def fnExactPricesOfUptoRow : OpenClaim := { program := "ythahkoclkjfkdaa", sum := "50312c7738d52b37131ec81c18db2105d3f2437204c8aaf16327e39691e9782b", func := "loop.example/g01026/laws.FnExactPricesOf", spec := "fnExactPricesOf", unfollowed := true, recurses := true, apart := false, narrowed := true }
def FnExactPricesOfUptoSaid : Prop := fnExactPricesOfUptoRow.holds Try.pinned (OpenSpec.upto fnExactPricesOfSpec)

/-- 'laws.FnExactBestAssignment', WHERE WHAT IT READS IS OF BULK AT MOST 1048576: true; the input reads as it did. -/
def fnExactBestAssignmentUptoRow : OpenClaim := { program := "ythahkoclkjfkdaa", sum := "50312c7738d52b37131ec81c18db2105d3f2437204c8aaf16327e39691e9782b", func := "loop.example/g01026/laws.FnExactBestAssignment", spec := "fnExactBestAssignment", unfollowed := true, recurses := true, apart := false, narrowed := true }
def FnExactBestAssignmentUptoSaid : Prop := fnExactBestAssignmentUptoRow.holds Try.pinned (OpenSpec.upto fnExactBestAssignmentSpec)

/-- 'laws.FnExactGreedyAssignment', WHERE WHAT IT READS IS OF BULK AT MOST 1048576: true; the input reads as it did. -/
def fnExactGreedyAssignmentUptoRow : OpenClaim := { program := "ythahkoclkjfkdaa", sum := "50312c7738d52b37131ec81c18db2105d3f2437204c8aaf16327e39691e9782b", func := "loop.example/g01026/laws.FnExactGreedyAssignment", spec := "fnExactGreedyAssignment", unfollowed := true, recurses := true, apart := false, narrowed := true }
def FnExactGreedyAssignmentUptoSaid : Prop := fnExactGreedyAssignmentUptoRow.holds Try.pinned (OpenSpec.upto fnExactGreedyAssignmentSpec)

end Rows
end Go.Proofs.Ythahkoclkjfkdaa
