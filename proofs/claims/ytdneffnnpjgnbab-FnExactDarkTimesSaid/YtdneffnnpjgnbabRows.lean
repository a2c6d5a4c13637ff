/-
  No cell of these rows narrows 'for every input' (looked for: loops, veiled, ifaces, maps, wideKeys, modest, calm, conditions, laid).
  DERIVED. THE GIVEN ROWS OF THIS SEAT. 4 by the template 'for every input the law returns true; each argument reads behind the call as it read before'; 0 by the template 'total and deterministic' (their statements: YtdneffnnpjgnbabTotals.lean).
  GIVEN WITH THE SEED: the statements are not yours to turn. If you find one false, say at which input.
  Laid BY PROGRAM, IN A SANDBOX (cutbox-rows.mjs): the forced cells as the released guide's own fill.sh prints them over the translation 4c088fc9a31bf411… (all of the seat's roots in one cut). By AI agents, Wed Nov 11 2026. No macro, syntax, notation, axiom, sorry.
-/
import Derived.Test.YtdneffnnpjgnbabChecked
import GoSem.Claim
import GoSem.ClaimJoined
import GoSem.ClaimMapViews
import Derived.JoinedTies
import Derived.KernelRfl
namespace Go.Proofs.Ytdneffnnpjgnbab
/- THE CELL 'sum', in the pinned program and in every row, IS THE sha256 OF THE DUMP (.gsa) THAT YtdneffnnpjgnbabProg.lean LOADS. Nothing in Lean hashes anything: it is a label: what it is worth is what the hold of that sum in a sandbox is worth. -/
noncomputable def Try.pinned : Pinned := { name := "ytdneffnnpjgnbab", sum := "4c088fc9a31bf411cd17644927321e75a3dc379472123424f6ec23c6888b9d9a", checked := Try.checked }
namespace Rows
def none {H : Type} : Left H := { results := [], args := [] }

/-- 'laws.FnExactLessWindows': WHATEVER THE INPUT: true; the input reads as it did. -/
def fnExactLessWindowsSpec : ChangeSpec := { name := "fnExactLessWindows", fn := fun _ => fun
  | [d1, d2] => { results := [.lit (.bool true)], args := [d1, d2] }
  | _ => none }
def fnExactLessWindowsRow : OpenClaim := { program := "ytdneffnnpjgnbab", sum := "4c088fc9a31bf411cd17644927321e75a3dc379472123424f6ec23c6888b9d9a", func := "loop.example/g01026/laws.FnExactLessWindows", spec := "fnExactLessWindows", unfollowed := true, recurses := true, apart := false }
def FnExactLessWindowsSaid : Prop := fnExactLessWindowsRow.holds Try.pinned (OpenSpec.ofChange fnExactLessWindowsSpec)

/-- ITS FALSE NEIGHBOUR: 'it returns false'. Refute it at one input. -/
def fnExactLessWindowsWrong : ChangeSpec := { name := "fnExactLessWindows", fn := fun _ => fun
  | [d1, d2] => { results := [.lit (.bool false)], args := [d1, d2] }
  | _ => none }
def FnExactLessWindowsWrongFalsely : Prop := fnExactLessWindowsRow.holds Try.pinned (OpenSpec.ofChange fnExactLessWindowsWrong)

/-- 'laws.FnExactDarkTimes': WHATEVER THE INPUT: true; the input reads as it did. -/
def fnExactDarkTimesSpec : ChangeSpec := { name := "fnExactDarkTimes", fn := fun _ => fun
  | [d1, d2, d3] => { results := [.lit (.bool true)], args := [d1, d2, d3] }
  | _ => none }
def fnExactDarkTimesRow : OpenClaim := { program := "ytdneffnnpjgnbab", sum := "4c088fc9a31bf411cd17644927321e75a3dc379472123424f6ec23c6888b9d9a", func := "loop.example/g01026/laws.FnExactDarkTimes", spec := "fnExactDarkTimes", unfollowed := true, recurses := true, apart := false }
def FnExactDarkTimesSaid : Prop := fnExactDarkTimesRow.holds Try.pinned (OpenSpec.ofChange fnExactDarkTimesSpec)

/-- ITS FALSE NEIGHBOUR: 'it returns false'. Refute it at one input. -/
def fnExactDarkTimesWrong : ChangeSpec := { name := "fnExactDarkTimes", fn := fun _ => fun
  | [d1, d2, d3] => { results := [.lit (.bool false)], args := [d1, d2, d3] }
  | _ => none }
def FnExactDarkTimesWrongFalsely : Prop := fnExactDarkTimesRow.holds Try.pinned (OpenSpec.ofChange fnExactDarkTimesWrong)

/-- 'laws.FnExactUnionWindows': WHATEVER THE INPUT: true; the input reads as it did. -/
def fnExactUnionWindowsSpec : ChangeSpec := { name := "fnExactUnionWindows", fn := fun _ => fun
  | [d1, d2] => { results := [.lit (.bool true)], args := [d1, d2] }
  | _ => none }
def fnExactUnionWindowsRow : OpenClaim := { program := "ytdneffnnpjgnbab", sum := "4c088fc9a31bf411cd17644927321e75a3dc379472123424f6ec23c6888b9d9a", func := "loop.example/g01026/laws.FnExactUnionWindows", spec := "fnExactUnionWindows", unfollowed := true, recurses := true, apart := false }
def FnExactUnionWindowsSaid : Prop := fnExactUnionWindowsRow.holds Try.pinned (OpenSpec.ofChange fnExactUnionWindowsSpec)

/-- ITS FALSE NEIGHBOUR: 'it returns false'. Refute it at one input. -/
def fnExactUnionWindowsWrong : ChangeSpec := { name := "fnExactUnionWindows", fn := fun _ => fun
  | [d1, d2] => { results := [.lit (.bool false)], args := [d1, d2] }
  | _ => none }
def FnExactUnionWindowsWrongFalsely : Prop := fnExactUnionWindowsRow.holds Try.pinned (OpenSpec.ofChange fnExactUnionWindowsWrong)

/-- 'laws.FnExactMeetWindows': WHATEVER THE INPUT: true; the input reads as it did. -/
def fnExactMeetWindowsSpec : ChangeSpec := { name := "fnExactMeetWindows", fn := fun _ => fun
  | [d1, d2] => { results := [.lit (.bool true)], args := [d1, d2] }
  | _ => none }
def fnExactMeetWindowsRow : OpenClaim := { program := "ytdneffnnpjgnbab", sum := "4c088fc9a31bf411cd17644927321e75a3dc379472123424f6ec23c6888b9d9a", func := "loop.example/g01026/laws.FnExactMeetWindows", spec := "fnExactMeetWindows", unfollowed := true, recurses := true, apart := false }
def FnExactMeetWindowsSaid : Prop := fnExactMeetWindowsRow.holds Try.pinned (OpenSpec.ofChange fnExactMeetWindowsSpec)

/-- ITS FALSE NEIGHBOUR: 'it returns false'. Refute it at one input. -/
def fnExactMeetWindowsWrong : ChangeSpec := { name := "fnExactMeetWindows", fn := fun _ => fun
  | [d1, d2] => { results := [.lit (.bool false)], args := [d1, d2] }
  | _ => none }
def FnExactMeetWindowsWrongFalsely : Prop := fnExactMeetWindowsRow.holds Try.pinned (OpenSpec.ofChange fnExactMeetWindowsWrong)

/- THE SECOND FORM. 'bulk': how many values and letters a reading holds, each counted each time it is reached (what is shared counts as often as it is met; a slice's spare places count too). A statement '..UptoSaid' is the law's where the arguments, and the package variables that the reading takes, are together of bulk at most 1048576: NARROWER than '..Said'. Prove '..Said' where nothing that the law and all that it calls make is longer than what came in: it says more and counts as full. Else prove '..UptoSaid'. A law counts once. -/
mutual
def uptoBulk {H : Type} : DataW H → Nat
  | .lit (.string bytes) => bytes.length + 1
  | .lit _ => 1
  | .nil => 1
  | .ptr d => uptoBulk d + 1
  | .slice elems spare => uptoBulkAll elems + uptoBulkAll spare + 1
  | .agg parts => uptoBulkAll parts + 1
  | .iface _ d => uptoBulk d + 1
  | .map entries => uptoBulkEntries entries + 1
  | .held _ => 1
def uptoBulkAll {H : Type} : List (DataW H) → Nat
  | [] => 0
  | d :: r => uptoBulk d + uptoBulkAll r
def uptoBulkEntries {H : Type} : List (Lit × DataW H) → Nat
  | [] => 0
  | x :: r => uptoBulkEntry x + uptoBulkEntries r
def uptoBulkEntry {H : Type} : Lit × DataW H → Nat
  | (.string bytes, d) => bytes.length + uptoBulk d + 1
  | (_, d) => uptoBulk d + 1
 end
def uptoSmall : (H : Type) → List (DataW H) → Bool := fun _ ds => decide (uptoBulkAll ds ≤ 1048576)
def OpenSpec.upto (s : _root_.Go.ChangeSpec) : _root_.Go.OpenSpec := { _root_.Go.OpenSpec.ofChange s with cond := some uptoSmall }

/-- 'laws.FnExactLessWindows', WHERE WHAT IT READS IS OF BULK AT MOST 1048576: true; the input reads as it did. -/
def fnExactLessWindowsUptoRow : OpenClaim := { program := "ytdneffnnpjgnbab", sum := "4c088fc9a31bf411cd17644927321e75a3dc379472123424f6ec23c6888b9d9a", func := "loop.example/g01026/laws.FnExactLessWindows", spec := "fnExactLessWindows", unfollowed := true, recurses := true, apart := false, narrowed := true }
def FnExactLessWindowsUptoSaid : Prop := fnExactLessWindowsUptoRow.holds Try.pinned (OpenSpec.upto fnExactLessWindowsSpec)

/-- 'laws.FnExactDarkTimes', WHERE WHAT IT READS IS OF BULK AT MOST 1048576: true; the input reads as it did. -/
def fnExactDarkTimesUptoRow : OpenClaim := { program := "ytdneffnnpjgnbab", sum := "4c088fc9a31bf411cd17644927321e75a3dc379472123424f6ec23c6888b9d9a", func := "loop.example/g01026/laws.FnExactDarkTimes", spec := "fnExactDarkTimes", unfollowed := true, recurses := true, apart := false, narrowed := true }
def FnExactDarkTimesUptoSaid : Prop := fnExactDarkTimesUptoRow.holds Try.pinned (OpenSpec.upto fnExactDarkTimesSpec)

/-- 'laws.FnExactUnionWindows', WHERE WHAT IT READS IS OF BULK AT MOST 1048576: true; the input reads as it did. -/
def fnExactUnionWindowsUptoRow : OpenClaim := { program := "ytdneffnnpjgnbab", sum := "4c088fc9a31bf411cd17644927321e75a3dc379472123424f6ec23c6888b9d9a", func := "loop.example/g01026/laws.FnExactUnionWindows", spec := "fnExactUnionWindows", unfollowed := true, recurses := true, apart := false, narrowed := true }
def FnExactUnionWindowsUptoSaid : Prop := fnExactUnionWindowsUptoRow.holds Try.pinned (OpenSpec.upto fnExactUnionWindowsSpec)

/-- 'laws.FnExactMeetWindows', WHERE WHAT IT READS IS OF BULK AT MOST 1048576: true; the input reads as it did. -/
def fnExactMeetWindowsUptoRow : OpenClaim := { program := "ytdneffnnpjgnbab", sum := "4c088fc9a31bf411cd17644927321e75a3dc379472123424f6ec23c6888b9d9a", func := "loop.example/g01026/laws.FnExactMeetWindows", spec := "fnExactMeetWindows", unfollowed := true, recurses := true, apart := false, narrowed := true }
def FnExactMeetWindowsUptoSaid : Prop := fnExactMeetWindowsUptoRow.holds Try.pinned (OpenSpec.upto fnExactMeetWindowsSpec)

end Rows
end Go.Proofs.Ytdneffnnpjgnbab
