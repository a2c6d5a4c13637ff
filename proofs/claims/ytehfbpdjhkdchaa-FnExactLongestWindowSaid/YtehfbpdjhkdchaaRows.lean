/-
  No cell of these rows narrows 'for every input' (looked for: loops, veiled, ifaces, maps, wideKeys, modest, calm, conditions, laid).
  DERIVED. THE GIVEN ROWS OF THIS SEAT. 11 by the template 'for every input the law returns true; each argument reads behind the call as it read before'; 0 by the template 'total and deterministic' (their statements: YtehfbpdjhkdchaaTotals.lean).
  GIVEN WITH THE SEED: the statements are not yours to turn. If you find one false, say at which input.
  Laid BY PROGRAM, IN A SANDBOX (cutbox-rows.mjs): the forced cells as the released guide's own fill.sh prints them over the translation 73b4152b62f7f8b6… (all of the seat's roots in one cut). By AI agents, Wed Nov 11 2026. No macro, syntax, notation, axiom, sorry.
-/
import Derived.Test.YtehfbpdjhkdchaaChecked
import GoSem.Claim
import GoSem.ClaimJoined
import GoSem.ClaimMapViews
import Derived.JoinedTies
import Derived.KernelRfl
namespace Go.Proofs.Ytehfbpdjhkdchaa
/- THE CELL 'sum', in the pinned program and in every row, IS THE sha256 OF THE DUMP (.gsa) THAT YtehfbpdjhkdchaaProg.lean LOADS. Nothing in Lean hashes anything: it is a label: what it is worth is what the hold of that sum in a sandbox is worth. -/
noncomputable def Try.pinned : Pinned := { name := "ytehfbpdjhkdchaa", sum := "73b4152b62f7f8b69dc2f079ad7f1112d25c10540066f2d3af3bde3b05d5f48c", checked := Try.checked }
namespace Rows
def none {H : Type} : Left H := { results := [], args := [] }

/-- 'laws.FnExactValidWindows': WHATEVER THE INPUT: true; the input reads as it did. -/
def fnExactValidWindowsSpec : ChangeSpec := { name := "fnExactValidWindows", fn := fun _ => fun
  | [d] => { results := [.lit (.bool true)], args := [d] }
  | _ => none }
def fnExactValidWindowsRow : OpenClaim := { program := "ytehfbpdjhkdchaa", sum := "73b4152b62f7f8b69dc2f079ad7f1112d25c10540066f2d3af3bde3b05d5f48c", func := "loop.example/g01026/laws.FnExactValidWindows", spec := "fnExactValidWindows", apart := false }
def FnExactValidWindowsSaid : Prop := fnExactValidWindowsRow.holds Try.pinned (OpenSpec.ofChange fnExactValidWindowsSpec)

/-- ITS FALSE NEIGHBOUR: 'it returns false'. Refute it at one input. -/
def fnExactValidWindowsWrong : ChangeSpec := { name := "fnExactValidWindows", fn := fun _ => fun
  | [d] => { results := [.lit (.bool false)], args := [d] }
  | _ => none }
def FnExactValidWindowsWrongFalsely : Prop := fnExactValidWindowsRow.holds Try.pinned (OpenSpec.ofChange fnExactValidWindowsWrong)

/-- 'laws.FnExactSameWindows': WHATEVER THE INPUT: true; the input reads as it did. -/
def fnExactSameWindowsSpec : ChangeSpec := { name := "fnExactSameWindows", fn := fun _ => fun
  | [d1, d2] => { results := [.lit (.bool true)], args := [d1, d2] }
  | _ => none }
def fnExactSameWindowsRow : OpenClaim := { program := "ytehfbpdjhkdchaa", sum := "73b4152b62f7f8b69dc2f079ad7f1112d25c10540066f2d3af3bde3b05d5f48c", func := "loop.example/g01026/laws.FnExactSameWindows", spec := "fnExactSameWindows", apart := false }
def FnExactSameWindowsSaid : Prop := fnExactSameWindowsRow.holds Try.pinned (OpenSpec.ofChange fnExactSameWindowsSpec)

/-- ITS FALSE NEIGHBOUR: 'it returns false'. Refute it at one input. -/
def fnExactSameWindowsWrong : ChangeSpec := { name := "fnExactSameWindows", fn := fun _ => fun
  | [d1, d2] => { results := [.lit (.bool false)], args := [d1, d2] }
  | _ => none }
def FnExactSameWindowsWrongFalsely : Prop := fnExactSameWindowsRow.holds Try.pinned (OpenSpec.ofChange fnExactSameWindowsWrong)

/-- 'laws.FnExactLessWindows': WHATEVER THE INPUT: true; the input reads as it did. -/
def fnExactLessWindowsSpec : ChangeSpec := { name := "fnExactLessWindows", fn := fun _ => fun
  | [d1, d2] => { results := [.lit (.bool true)], args := [d1, d2] }
  | _ => none }
def fnExactLessWindowsRow : OpenClaim := { program := "ytehfbpdjhkdchaa", sum := "73b4152b62f7f8b69dc2f079ad7f1112d25c10540066f2d3af3bde3b05d5f48c", func := "loop.example/g01026/laws.FnExactLessWindows", spec := "fnExactLessWindows", unfollowed := true, recurses := true, apart := false }
def FnExactLessWindowsSaid : Prop := fnExactLessWindowsRow.holds Try.pinned (OpenSpec.ofChange fnExactLessWindowsSpec)

/-- ITS FALSE NEIGHBOUR: 'it returns false'. Refute it at one input. -/
def fnExactLessWindowsWrong : ChangeSpec := { name := "fnExactLessWindows", fn := fun _ => fun
  | [d1, d2] => { results := [.lit (.bool false)], args := [d1, d2] }
  | _ => none }
def FnExactLessWindowsWrongFalsely : Prop := fnExactLessWindowsRow.holds Try.pinned (OpenSpec.ofChange fnExactLessWindowsWrong)

/-- 'laws.FnExactNightsFrom': WHATEVER THE INPUT: true; the input reads as it did. -/
def fnExactNightsFromSpec : ChangeSpec := { name := "fnExactNightsFrom", fn := fun _ => fun
  | [d1, d2, d3, d4] => { results := [.lit (.bool true)], args := [d1, d2, d3, d4] }
  | _ => none }
def fnExactNightsFromRow : OpenClaim := { program := "ytehfbpdjhkdchaa", sum := "73b4152b62f7f8b69dc2f079ad7f1112d25c10540066f2d3af3bde3b05d5f48c", func := "loop.example/g01026/laws.FnExactNightsFrom", spec := "fnExactNightsFrom", apart := false }
def FnExactNightsFromSaid : Prop := fnExactNightsFromRow.holds Try.pinned (OpenSpec.ofChange fnExactNightsFromSpec)

/-- ITS FALSE NEIGHBOUR: 'it returns false'. Refute it at one input. -/
def fnExactNightsFromWrong : ChangeSpec := { name := "fnExactNightsFrom", fn := fun _ => fun
  | [d1, d2, d3, d4] => { results := [.lit (.bool false)], args := [d1, d2, d3, d4] }
  | _ => none }
def FnExactNightsFromWrongFalsely : Prop := fnExactNightsFromRow.holds Try.pinned (OpenSpec.ofChange fnExactNightsFromWrong)

/-- 'laws.FnExactLengthOfWindows': WHATEVER THE INPUT: true; the input reads as it did. -/
def fnExactLengthOfWindowsSpec : ChangeSpec := { name := "fnExactLengthOfWindows", fn := fun _ => fun
  | [d] => { results := [.lit (.bool true)], args := [d] }
  | _ => none }
def fnExactLengthOfWindowsRow : OpenClaim := { program := "ytehfbpdjhkdchaa", sum := "73b4152b62f7f8b69dc2f079ad7f1112d25c10540066f2d3af3bde3b05d5f48c", func := "loop.example/g01026/laws.FnExactLengthOfWindows", spec := "fnExactLengthOfWindows", apart := false }
def FnExactLengthOfWindowsSaid : Prop := fnExactLengthOfWindowsRow.holds Try.pinned (OpenSpec.ofChange fnExactLengthOfWindowsSpec)

/-- ITS FALSE NEIGHBOUR: 'it returns false'. Refute it at one input. -/
def fnExactLengthOfWindowsWrong : ChangeSpec := { name := "fnExactLengthOfWindows", fn := fun _ => fun
  | [d] => { results := [.lit (.bool false)], args := [d] }
  | _ => none }
def FnExactLengthOfWindowsWrongFalsely : Prop := fnExactLengthOfWindowsRow.holds Try.pinned (OpenSpec.ofChange fnExactLengthOfWindowsWrong)

/-- 'laws.FnExactDarkTimes': WHATEVER THE INPUT: true; the input reads as it did. -/
def fnExactDarkTimesSpec : ChangeSpec := { name := "fnExactDarkTimes", fn := fun _ => fun
  | [d1, d2, d3] => { results := [.lit (.bool true)], args := [d1, d2, d3] }
  | _ => none }
def fnExactDarkTimesRow : OpenClaim := { program := "ytehfbpdjhkdchaa", sum := "73b4152b62f7f8b69dc2f079ad7f1112d25c10540066f2d3af3bde3b05d5f48c", func := "loop.example/g01026/laws.FnExactDarkTimes", spec := "fnExactDarkTimes", unfollowed := true, recurses := true, apart := false }
def FnExactDarkTimesSaid : Prop := fnExactDarkTimesRow.holds Try.pinned (OpenSpec.ofChange fnExactDarkTimesSpec)

/-- ITS FALSE NEIGHBOUR: 'it returns false'. Refute it at one input. -/
def fnExactDarkTimesWrong : ChangeSpec := { name := "fnExactDarkTimes", fn := fun _ => fun
  | [d1, d2, d3] => { results := [.lit (.bool false)], args := [d1, d2, d3] }
  | _ => none }
def FnExactDarkTimesWrongFalsely : Prop := fnExactDarkTimesRow.holds Try.pinned (OpenSpec.ofChange fnExactDarkTimesWrong)

/-- 'laws.FnExactLongestWindow': WHATEVER THE INPUT: true; the input reads as it did. -/
def fnExactLongestWindowSpec : ChangeSpec := { name := "fnExactLongestWindow", fn := fun _ => fun
  | [d] => { results := [.lit (.bool true)], args := [d] }
  | _ => none }
def fnExactLongestWindowRow : OpenClaim := { program := "ytehfbpdjhkdchaa", sum := "73b4152b62f7f8b69dc2f079ad7f1112d25c10540066f2d3af3bde3b05d5f48c", func := "loop.example/g01026/laws.FnExactLongestWindow", spec := "fnExactLongestWindow", apart := false }
def FnExactLongestWindowSaid : Prop := fnExactLongestWindowRow.holds Try.pinned (OpenSpec.ofChange fnExactLongestWindowSpec)

/-- ITS FALSE NEIGHBOUR: 'it returns false'. Refute it at one input. -/
def fnExactLongestWindowWrong : ChangeSpec := { name := "fnExactLongestWindow", fn := fun _ => fun
  | [d] => { results := [.lit (.bool false)], args := [d] }
  | _ => none }
def FnExactLongestWindowWrongFalsely : Prop := fnExactLongestWindowRow.holds Try.pinned (OpenSpec.ofChange fnExactLongestWindowWrong)

/-- 'laws.FnExactInWindows': WHATEVER THE INPUT: true; the input reads as it did. -/
def fnExactInWindowsSpec : ChangeSpec := { name := "fnExactInWindows", fn := fun _ => fun
  | [d1, d2] => { results := [.lit (.bool true)], args := [d1, d2] }
  | _ => none }
def fnExactInWindowsRow : OpenClaim := { program := "ytehfbpdjhkdchaa", sum := "73b4152b62f7f8b69dc2f079ad7f1112d25c10540066f2d3af3bde3b05d5f48c", func := "loop.example/g01026/laws.FnExactInWindows", spec := "fnExactInWindows", unfollowed := true, recurses := true, apart := false }
def FnExactInWindowsSaid : Prop := fnExactInWindowsRow.holds Try.pinned (OpenSpec.ofChange fnExactInWindowsSpec)

/-- ITS FALSE NEIGHBOUR: 'it returns false'. Refute it at one input. -/
def fnExactInWindowsWrong : ChangeSpec := { name := "fnExactInWindows", fn := fun _ => fun
  | [d1, d2] => { results := [.lit (.bool false)], args := [d1, d2] }
  | _ => none }
def FnExactInWindowsWrongFalsely : Prop := fnExactInWindowsRow.holds Try.pinned (OpenSpec.ofChange fnExactInWindowsWrong)

/-- 'laws.FnExactLongWindows': WHATEVER THE INPUT: true; the input reads as it did. -/
def fnExactLongWindowsSpec : ChangeSpec := { name := "fnExactLongWindows", fn := fun _ => fun
  | [d1, d2] => { results := [.lit (.bool true)], args := [d1, d2] }
  | _ => none }
def fnExactLongWindowsRow : OpenClaim := { program := "ytehfbpdjhkdchaa", sum := "73b4152b62f7f8b69dc2f079ad7f1112d25c10540066f2d3af3bde3b05d5f48c", func := "loop.example/g01026/laws.FnExactLongWindows", spec := "fnExactLongWindows", unfollowed := true, recurses := true, apart := false }
def FnExactLongWindowsSaid : Prop := fnExactLongWindowsRow.holds Try.pinned (OpenSpec.ofChange fnExactLongWindowsSpec)

/-- ITS FALSE NEIGHBOUR: 'it returns false'. Refute it at one input. -/
def fnExactLongWindowsWrong : ChangeSpec := { name := "fnExactLongWindows", fn := fun _ => fun
  | [d1, d2] => { results := [.lit (.bool false)], args := [d1, d2] }
  | _ => none }
def FnExactLongWindowsWrongFalsely : Prop := fnExactLongWindowsRow.holds Try.pinned (OpenSpec.ofChange fnExactLongWindowsWrong)

/-- 'laws.FnExactUnionWindows': WHATEVER THE INPUT: true; the input reads as it did. -/
def fnExactUnionWindowsSpec : ChangeSpec := { name := "fnExactUnionWindows", fn := fun _ => fun
  | [d1, d2] => { results := [.lit (.bool true)], args := [d1, d2] }
  | _ => none }
def fnExactUnionWindowsRow : OpenClaim := { program := "ytehfbpdjhkdchaa", sum := "73b4152b62f7f8b69dc2f079ad7f1112d25c10540066f2d3af3bde3b05d5f48c", func := "loop.example/g01026/laws.FnExactUnionWindows", spec := "fnExactUnionWindows", unfollowed := true, recurses := true, apart := false }
def FnExactUnionWindowsSaid : Prop := fnExactUnionWindowsRow.holds Try.pinned (OpenSpec.ofChange fnExactUnionWindowsSpec)

/-- ITS FALSE NEIGHBOUR: 'it returns false'. Refute it at one input. -/
def fnExactUnionWindowsWrong : ChangeSpec := { name := "fnExactUnionWindows", fn := fun _ => fun
  | [d1, d2] => { results := [.lit (.bool false)], args := [d1, d2] }
  | _ => none }
def FnExactUnionWindowsWrongFalsely : Prop := fnExactUnionWindowsRow.holds Try.pinned (OpenSpec.ofChange fnExactUnionWindowsWrong)

/-- 'laws.FnExactMeetWindows': WHATEVER THE INPUT: true; the input reads as it did. -/
def fnExactMeetWindowsSpec : ChangeSpec := { name := "fnExactMeetWindows", fn := fun _ => fun
  | [d1, d2] => { results := [.lit (.bool true)], args := [d1, d2] }
  | _ => none }
def fnExactMeetWindowsRow : OpenClaim := { program := "ytehfbpdjhkdchaa", sum := "73b4152b62f7f8b69dc2f079ad7f1112d25c10540066f2d3af3bde3b05d5f48c", func := "loop.example/g01026/laws.FnExactMeetWindows", spec := "fnExactMeetWindows", unfollowed := true, recurses := true, apart := false }
def FnExactMeetWindowsSaid : Prop := fnExactMeetWindowsRow.holds Try.pinned (OpenSpec.ofChange fnExactMeetWindowsSpec)

/-- ITS FALSE NEIGHBOUR: 'it returns false'. Refute it at one input. -/
def fnExactMeetWindowsWrong : ChangeSpec := { name := "fnExactMeetWindows", fn := fun _ => fun
  | [d1, d2] => { results := [.lit (.bool false)], args := [d1, d2] }
  | _ => none }
def FnExactMeetWindowsWrongFalsely : Prop := fnExactMeetWindowsRow.holds Try.pinned (OpenSpec.ofChange fnExactMeetWindowsWrong)

/- THE SECOND FORM. 'bulk': how many values and letters a reading holds, each counted each time it is reached (what is shared counts as often as it is met; a slice's spare places count too). A statement '..UptoSaid' is the law's where the arguments, and the package variables that the reading takes, are together of bulk at most 1048576: NARROWER than '..Said'. Prove '..Said' where nothing that the law and all that it calls make is longer than what came in: it says more and counts as full. Else prove '..UptoSaid'. A law counts once. -/
mutual
def uptoBulk {H : Type} : DataW H → Nat
  | .lit (.string bytes) => bytes.length + 1
  | .lit _ => 1
  | .nil => 1
  | .ptr d => uptoBulk d + 1
  | .slice elems spare => uptoBulkAll elems + uptoBulkAll spare + 1
  | .agg parts => uptoBulkAll parts + 1
  | .iface _ d => uptoBulk d + 1
  | .map entries => uptoBulkEntries entries + 1
  | .held _ => 1
def uptoBulkAll {H : Type} : List (DataW H) → Nat
  | [] => 0
  | d :: r => uptoBulk d + uptoBulkAll r
def uptoBulkEntries {H : Type} : List (Lit × DataW H) → Nat
  | [] => 0
  | x :: r => uptoBulkEntry x + uptoBulkEntries r
def uptoBulkEntry {H : Type} : Lit × DataW H → Nat
  | (.string bytes, d) => bytes.length + uptoBulk d + 1
  | (_, d) => uptoBulk d + 1
 end
def uptoSmall : (H : Type) → List (DataW H) → Bool := fun _ ds => decide (uptoBulkAll ds ≤ 1048576)
def OpenSpec.upto (s : _root_.Go.ChangeSpec) : _root_.Go.OpenSpec := { _root_.Go.OpenSpec.ofChange s with cond := some uptoSmall }

/-- 'laws.FnExactValidWindows', WHERE WHAT IT READS IS OF BULK AT MOST 1048576: true; the input reads as it did. -/
def fnExactValidWindowsUptoRow : OpenClaim := { program := "ytehfbpdjhkdchaa", sum := "73b4152b62f7f8b69dc2f079ad7f1112d25c10540066f2d3af3bde3b05d5f48c", func := "loop.example/g01026/laws.FnExactValidWindows", spec := "fnExactValidWindows", apart := false, narrowed := true }
def FnExactValidWindowsUptoSaid : Prop := fnExactValidWindowsUptoRow.holds Try.pinned (OpenSpec.upto fnExactValidWindowsSpec)

/-- 'laws.FnExactSameWindows', WHERE WHAT IT READS IS OF BULK AT MOST 1048576: true; the input reads as it did. -/
def fnExactSameWindowsUptoRow : OpenClaim := { program := "ytehfbpdjhkdchaa", sum := "73b4152b62f7f8b69dc2f079ad7f1112d25c10540066f2d3af3bde3b05d5f48c", func := "loop.example/g01026/laws.FnExactSameWindows", spec := "fnExactSameWindows", apart := false, narrowed := true }
def FnExactSameWindowsUptoSaid : Prop := fnExactSameWindowsUptoRow.holds Try.pinned (OpenSpec.upto fnExactSameWindowsSpec)

/-- 'laws.FnExactLessWindows', WHERE WHAT IT READS IS OF BULK AT MOST 1048576: true; the input reads as it did. -/
def fnExactLessWindowsUptoRow : OpenClaim := { program := "ytehfbpdjhkdchaa", sum := "73b4152b62f7f8b69dc2f079ad7f1112d25c10540066f2d3af3bde3b05d5f48c", func := "loop.example/g01026/laws.FnExactLessWindows", spec := "fnExactLessWindows", unfollowed := true, recurses := true, apart := false, narrowed := true }
def FnExactLessWindowsUptoSaid : Prop := fnExactLessWindowsUptoRow.holds Try.pinned (OpenSpec.upto fnExactLessWindowsSpec)

/-- 'laws.FnExactNightsFrom', WHERE WHAT IT READS IS OF BULK AT MOST 1048576: true; the input reads as it did. -/
def fnExactNightsFromUptoRow : OpenClaim := { program := "ytehfbpdjhkdchaa", sum := "73b4152b62f7f8b69dc2f079ad7f1112d25c10540066f2d3af3bde3b05d5f48c", func := "loop.example/g01026/laws.FnExactNightsFrom", spec := "fnExactNightsFrom", apart := false, narrowed := true }
def FnExactNightsFromUptoSaid : Prop := fnExactNightsFromUptoRow.holds Try.pinned (OpenSpec.upto fnExactNightsFromSpec)

/-- 'laws.FnExactLengthOfWindows', WHERE WHAT IT READS IS OF BULK AT MOST 1048576: true; the input reads as it did. -/
def fnExactLengthOfWindowsUptoRow : OpenClaim := { program := "ytehfbpdjhkdchaa", sum := "73b4152b62f7f8b69dc2f079ad7f1112d25c10540066f2d3af3bde3b05d5f48c", func := "loop.example/g01026/laws.FnExactLengthOfWindows", spec := "fnExactLengthOfWindows", apart := false, narrowed := true }
def FnExactLengthOfWindowsUptoSaid : Prop := fnExactLengthOfWindowsUptoRow.holds Try.pinned (OpenSpec.upto fnExactLengthOfWindowsSpec)

/-- 'laws.FnExactDarkTimes', WHERE WHAT IT READS IS OF BULK AT MOST 1048576: true; the input reads as it did. -/
def fnExactDarkTimesUptoRow : OpenClaim := { program := "ytehfbpdjhkdchaa", sum := "73b4152b62f7f8b69dc2f079ad7f1112d25c10540066f2d3af3bde3b05d5f48c", func := "loop.example/g01026/laws.FnExactDarkTimes", spec := "fnExactDarkTimes", unfollowed := true, recurses := true, apart := false, narrowed := true }
def FnExactDarkTimesUptoSaid : Prop := fnExactDarkTimesUptoRow.holds Try.pinned (OpenSpec.upto fnExactDarkTimesSpec)

/-- 'laws.FnExactLongestWindow', WHERE WHAT IT READS IS OF BULK AT MOST 1048576: true; the input reads as it did. -/
def fnExactLongestWindowUptoRow : OpenClaim := { program := "ytehfbpdjhkdchaa", sum := "73b4152b62f7f8b69dc2f079ad7f1112d25c10540066f2d3af3bde3b05d5f48c", func := "loop.example/g01026/laws.FnExactLongestWindow", spec := "fnExactLongestWindow", apart := false, narrowed := true }
def FnExactLongestWindowUptoSaid : Prop := fnExactLongestWindowUptoRow.holds Try.pinned (OpenSpec.upto fnExactLongestWindowSpec)

/-- 'laws.FnExactInWindows', WHERE WHAT IT READS IS OF BULK AT MOST 1048576: true; the input reads as it did. -/
def fnExactInWindowsUptoRow : OpenClaim := { program := "ytehfbpdjhkdchaa", sum := "73b4152b62f7f8b69dc2f079ad7f1112d25c10540066f2d3af3bde3b05d5f48c", func := "loop.example/g01026/laws.FnExactInWindows", spec := "fnExactInWindows", unfollowed := true, recurses := true, apart := false, narrowed := true }
def FnExactInWindowsUptoSaid : Prop := fnExactInWindowsUptoRow.holds Try.pinned (OpenSpec.upto fnExactInWindowsSpec)

/-- 'laws.FnExactLongWindows', WHERE WHAT IT READS IS OF BULK AT MOST 1048576: true; the input reads as it did. -/
def fnExactLongWindowsUptoRow : OpenClaim := { program := "ytehfbpdjhkdchaa", sum := "73b4152b62f7f8b69dc2f079ad7f1112d25c10540066f2d3af3bde3b05d5f48c", func := "loop.example/g01026/laws.FnExactLongWindows", spec := "fnExactLongWindows", unfollowed := true, recurses := true, apart := false, narrowed := true }
def FnExactLongWindowsUptoSaid : Prop := fnExactLongWindowsUptoRow.holds Try.pinned (OpenSpec.upto fnExactLongWindowsSpec)

/-- 'laws.FnExactUnionWindows', WHERE WHAT IT READS IS OF BULK AT MOST 1048576: true; the input reads as it did. -/
def fnExactUnionWindowsUptoRow : OpenClaim := { program := "ytehfbpdjhkdchaa", sum := "73b4152b62f7f8b69dc2f079ad7f1112d25c10540066f2d3af3bde3b05d5f48c", func := "loop.example/g01026/laws.FnExactUnionWindows", spec := "fnExactUnionWindows", unfollowed := true, recurses := true, apart := false, narrowed := true }
def FnExactUnionWindowsUptoSaid : Prop := fnExactUnionWindowsUptoRow.holds Try.pinned (OpenSpec.upto fnExactUnionWindowsSpec)

/-- 'laws.FnExactMeetWindows', WHERE WHAT IT READS IS OF BULK AT MOST 1048576: true; the input reads as it did. -/
def fnExactMeetWindowsUptoRow : OpenClaim := { program := "ytehfbpdjhkdchaa", sum := "73b4152b62f7f8b69dc2f079ad7f1112d25c10540066f2d3af3bde3b05d5f48c", func := "loop.example/g01026/laws.FnExactMeetWindows", spec := "fnExactMeetWindows", unfollowed := true, recurses := true, apart := false, narrowed := true }
def FnExactMeetWindowsUptoSaid : Prop := fnExactMeetWindowsUptoRow.holds Try.pinned (OpenSpec.upto fnExactMeetWindowsSpec)

end Rows
end Go.Proofs.Ytehfbpdjhkdchaa
