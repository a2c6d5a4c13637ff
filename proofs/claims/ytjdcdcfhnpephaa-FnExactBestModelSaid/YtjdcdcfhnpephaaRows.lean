/-
  No cell of these rows narrows 'for every input' (looked for: loops, veiled, ifaces, maps, wideKeys, modest, calm, conditions, laid).
  DERIVED. THE GIVEN ROWS OF THIS SEAT. 9 by the template 'for every input the law returns true; each argument reads behind the call as it read before'; 0 by the template 'total and deterministic' (their statements: YtjdcdcfhnpephaaTotals.lean).
  GIVEN WITH THE SEED: the statements are not yours to turn. If you find one false, say at which input.
  Laid BY PROGRAM, IN A SANDBOX (cutbox-rows.mjs): the forced cells as the released guide's own fill.sh prints them over the translation 20a3c48a67239b8c… (all of the seat's roots in one cut). By AI agents, Wed Nov 11 2026. No macro, syntax, notation, axiom, sorry.
-/
import Derived.Test.YtjdcdcfhnpephaaChecked
import GoSem.Claim
import GoSem.ClaimJoined
import GoSem.ClaimMapViews
import Derived.JoinedTies
import Derived.KernelRfl
namespace Go.Proofs.Ytjdcdcfhnpephaa
/- THE CELL 'sum', in the pinned program and in every row, IS THE sha256 OF THE DUMP (.gsa) THAT YtjdcdcfhnpephaaProg.lean LOADS. Nothing in Lean hashes anything: it is a label: what it is worth is what the hold of that sum in a sandbox is worth. -/
noncomputable def Try.pinned : Pinned := { name := "ytjdcdcfhnpephaa", sum := "20a3c48a67239b8ca8f73a46e1ce980998b38b71c1059817a5ebc74803bd7714", checked := Try.checked }
namespace Rows
def none {H : Type} : Left H := { results := [], args := [] }

/-- 'laws.FnExactValidModel': WHATEVER THE INPUT: true; the input reads as it did. -/
def fnExactValidModelSpec : ChangeSpec := { name := "fnExactValidModel", fn := fun _ => fun
  | [d] => { results := [.lit (.bool true)], args := [d] }
  | _ => none }
def fnExactValidModelRow : OpenClaim := { program := "ytjdcdcfhnpephaa", sum := "20a3c48a67239b8ca8f73a46e1ce980998b38b71c1059817a5ebc74803bd7714", func := "loop.example/g01026/laws.FnExactValidModel", spec := "fnExactValidModel", apart := false }
def FnExactValidModelSaid : Prop := fnExactValidModelRow.holds Try.pinned (OpenSpec.ofChange fnExactValidModelSpec)

/-- ITS FALSE NEIGHBOUR: 'it returns false'. Refute it at one input. -/
def fnExactValidModelWrong : ChangeSpec := { name := "fnExactValidModel", fn := fun _ => fun
  | [d] => { results := [.lit (.bool false)], args := [d] }
  | _ => none }
def FnExactValidModelWrongFalsely : Prop := fnExactValidModelRow.holds Try.pinned (OpenSpec.ofChange fnExactValidModelWrong)

/-- 'laws.FnExactAreaOfModel': WHATEVER THE INPUT: true; the input reads as it did. -/
def fnExactAreaOfModelSpec : ChangeSpec := { name := "fnExactAreaOfModel", fn := fun _ => fun
  | [d] => { results := [.lit (.bool true)], args := [d] }
  | _ => none }
def fnExactAreaOfModelRow : OpenClaim := { program := "ytjdcdcfhnpephaa", sum := "20a3c48a67239b8ca8f73a46e1ce980998b38b71c1059817a5ebc74803bd7714", func := "loop.example/g01026/laws.FnExactAreaOfModel", spec := "fnExactAreaOfModel", apart := false }
def FnExactAreaOfModelSaid : Prop := fnExactAreaOfModelRow.holds Try.pinned (OpenSpec.ofChange fnExactAreaOfModelSpec)

/-- ITS FALSE NEIGHBOUR: 'it returns false'. Refute it at one input. -/
def fnExactAreaOfModelWrong : ChangeSpec := { name := "fnExactAreaOfModel", fn := fun _ => fun
  | [d] => { results := [.lit (.bool false)], args := [d] }
  | _ => none }
def FnExactAreaOfModelWrongFalsely : Prop := fnExactAreaOfModelRow.holds Try.pinned (OpenSpec.ofChange fnExactAreaOfModelWrong)

/-- 'laws.FnExactDropAt': WHATEVER THE INPUT: true; the input reads as it did. -/
def fnExactDropAtSpec : ChangeSpec := { name := "fnExactDropAt", fn := fun _ => fun
  | [d1, d2] => { results := [.lit (.bool true)], args := [d1, d2] }
  | _ => none }
def fnExactDropAtRow : OpenClaim := { program := "ytjdcdcfhnpephaa", sum := "20a3c48a67239b8ca8f73a46e1ce980998b38b71c1059817a5ebc74803bd7714", func := "loop.example/g01026/laws.FnExactDropAt", spec := "fnExactDropAt", apart := false }
def FnExactDropAtSaid : Prop := fnExactDropAtRow.holds Try.pinned (OpenSpec.ofChange fnExactDropAtSpec)

/-- ITS FALSE NEIGHBOUR: 'it returns false'. Refute it at one input. -/
def fnExactDropAtWrong : ChangeSpec := { name := "fnExactDropAt", fn := fun _ => fun
  | [d1, d2] => { results := [.lit (.bool false)], args := [d1, d2] }
  | _ => none }
def FnExactDropAtWrongFalsely : Prop := fnExactDropAtRow.holds Try.pinned (OpenSpec.ofChange fnExactDropAtWrong)

/-- 'laws.FnExactContactsOf': WHATEVER THE INPUT: true; the input reads as it did. -/
def fnExactContactsOfSpec : ChangeSpec := { name := "fnExactContactsOf", fn := fun _ => fun
  | [d1, d2, d3] => { results := [.lit (.bool true)], args := [d1, d2, d3] }
  | _ => none }
def fnExactContactsOfRow : OpenClaim := { program := "ytjdcdcfhnpephaa", sum := "20a3c48a67239b8ca8f73a46e1ce980998b38b71c1059817a5ebc74803bd7714", func := "loop.example/g01026/laws.FnExactContactsOf", spec := "fnExactContactsOf", apart := false }
def FnExactContactsOfSaid : Prop := fnExactContactsOfRow.holds Try.pinned (OpenSpec.ofChange fnExactContactsOfSpec)

/-- ITS FALSE NEIGHBOUR: 'it returns false'. Refute it at one input. -/
def fnExactContactsOfWrong : ChangeSpec := { name := "fnExactContactsOf", fn := fun _ => fun
  | [d1, d2, d3] => { results := [.lit (.bool false)], args := [d1, d2, d3] }
  | _ => none }
def FnExactContactsOfWrongFalsely : Prop := fnExactContactsOfRow.holds Try.pinned (OpenSpec.ofChange fnExactContactsOfWrong)

/-- 'laws.FnExactEclipsedShare': WHATEVER THE INPUT: true; the input reads as it did. -/
def fnExactEclipsedShareSpec : ChangeSpec := { name := "fnExactEclipsedShare", fn := fun _ => fun
  | [d1, d2] => { results := [.lit (.bool true)], args := [d1, d2] }
  | _ => none }
def fnExactEclipsedShareRow : OpenClaim := { program := "ytjdcdcfhnpephaa", sum := "20a3c48a67239b8ca8f73a46e1ce980998b38b71c1059817a5ebc74803bd7714", func := "loop.example/g01026/laws.FnExactEclipsedShare", spec := "fnExactEclipsedShare", apart := false }
def FnExactEclipsedShareSaid : Prop := fnExactEclipsedShareRow.holds Try.pinned (OpenSpec.ofChange fnExactEclipsedShareSpec)

/-- ITS FALSE NEIGHBOUR: 'it returns false'. Refute it at one input. -/
def fnExactEclipsedShareWrong : ChangeSpec := { name := "fnExactEclipsedShare", fn := fun _ => fun
  | [d1, d2] => { results := [.lit (.bool false)], args := [d1, d2] }
  | _ => none }
def FnExactEclipsedShareWrongFalsely : Prop := fnExactEclipsedShareRow.holds Try.pinned (OpenSpec.ofChange fnExactEclipsedShareWrong)

/-- 'laws.FnExactModelMag': WHATEVER THE INPUT: true; the input reads as it did. -/
def fnExactModelMagSpec : ChangeSpec := { name := "fnExactModelMag", fn := fun _ => fun
  | [d1, d2, d3, d4] => { results := [.lit (.bool true)], args := [d1, d2, d3, d4] }
  | _ => none }
def fnExactModelMagRow : OpenClaim := { program := "ytjdcdcfhnpephaa", sum := "20a3c48a67239b8ca8f73a46e1ce980998b38b71c1059817a5ebc74803bd7714", func := "loop.example/g01026/laws.FnExactModelMag", spec := "fnExactModelMag", apart := false }
def FnExactModelMagSaid : Prop := fnExactModelMagRow.holds Try.pinned (OpenSpec.ofChange fnExactModelMagSpec)

/-- ITS FALSE NEIGHBOUR: 'it returns false'. Refute it at one input. -/
def fnExactModelMagWrong : ChangeSpec := { name := "fnExactModelMag", fn := fun _ => fun
  | [d1, d2, d3, d4] => { results := [.lit (.bool false)], args := [d1, d2, d3, d4] }
  | _ => none }
def FnExactModelMagWrongFalsely : Prop := fnExactModelMagRow.holds Try.pinned (OpenSpec.ofChange fnExactModelMagWrong)

/-- 'laws.FnExactModelSquares': WHATEVER THE INPUT: true; the input reads as it did. -/
def fnExactModelSquaresSpec : ChangeSpec := { name := "fnExactModelSquares", fn := fun _ => fun
  | [d1, d2, d3, d4] => { results := [.lit (.bool true)], args := [d1, d2, d3, d4] }
  | _ => none }
def fnExactModelSquaresRow : OpenClaim := { program := "ytjdcdcfhnpephaa", sum := "20a3c48a67239b8ca8f73a46e1ce980998b38b71c1059817a5ebc74803bd7714", func := "loop.example/g01026/laws.FnExactModelSquares", spec := "fnExactModelSquares", apart := false }
def FnExactModelSquaresSaid : Prop := fnExactModelSquaresRow.holds Try.pinned (OpenSpec.ofChange fnExactModelSquaresSpec)

/-- ITS FALSE NEIGHBOUR: 'it returns false'. Refute it at one input. -/
def fnExactModelSquaresWrong : ChangeSpec := { name := "fnExactModelSquares", fn := fun _ => fun
  | [d1, d2, d3, d4] => { results := [.lit (.bool false)], args := [d1, d2, d3, d4] }
  | _ => none }
def FnExactModelSquaresWrongFalsely : Prop := fnExactModelSquaresRow.holds Try.pinned (OpenSpec.ofChange fnExactModelSquaresWrong)

/-- 'laws.FnExactModelsOf': WHATEVER THE INPUT: true; the input reads as it did. -/
def fnExactModelsOfSpec : ChangeSpec := { name := "fnExactModelsOf", fn := fun _ => fun
  | [d] => { results := [.lit (.bool true)], args := [d] }
  | _ => none }
def fnExactModelsOfRow : OpenClaim := { program := "ytjdcdcfhnpephaa", sum := "20a3c48a67239b8ca8f73a46e1ce980998b38b71c1059817a5ebc74803bd7714", func := "loop.example/g01026/laws.FnExactModelsOf", spec := "fnExactModelsOf", unfollowed := true, recurses := true, apart := false }
def FnExactModelsOfSaid : Prop := fnExactModelsOfRow.holds Try.pinned (OpenSpec.ofChange fnExactModelsOfSpec)

/-- ITS FALSE NEIGHBOUR: 'it returns false'. Refute it at one input. -/
def fnExactModelsOfWrong : ChangeSpec := { name := "fnExactModelsOf", fn := fun _ => fun
  | [d] => { results := [.lit (.bool false)], args := [d] }
  | _ => none }
def FnExactModelsOfWrongFalsely : Prop := fnExactModelsOfRow.holds Try.pinned (OpenSpec.ofChange fnExactModelsOfWrong)

/-- 'laws.FnExactBestModel': WHATEVER THE INPUT: true; the input reads as it did. -/
def fnExactBestModelSpec : ChangeSpec := { name := "fnExactBestModel", fn := fun _ => fun
  | [d1, d2, d3, d4] => { results := [.lit (.bool true)], args := [d1, d2, d3, d4] }
  | _ => none }
def fnExactBestModelRow : OpenClaim := { program := "ytjdcdcfhnpephaa", sum := "20a3c48a67239b8ca8f73a46e1ce980998b38b71c1059817a5ebc74803bd7714", func := "loop.example/g01026/laws.FnExactBestModel", spec := "fnExactBestModel", unfollowed := true, recurses := true, apart := false }
def FnExactBestModelSaid : Prop := fnExactBestModelRow.holds Try.pinned (OpenSpec.ofChange fnExactBestModelSpec)

/-- ITS FALSE NEIGHBOUR: 'it returns false'. Refute it at one input. -/
def fnExactBestModelWrong : ChangeSpec := { name := "fnExactBestModel", fn := fun _ => fun
  | [d1, d2, d3, d4] => { results := [.lit (.bool false)], args := [d1, d2, d3, d4] }
  | _ => none }
def FnExactBestModelWrongFalsely : Prop := fnExactBestModelRow.holds Try.pinned (OpenSpec.ofChange fnExactBestModelWrong)

/- THE SECOND FORM. 'bulk': how many values and letters a reading holds, each counted each time it is reached (what is shared counts as often as it is met; a slice's spare places count too). A statement '..UptoSaid' is the law's where the arguments, and the package variables that the reading takes, are together of bulk at most 1048576: NARROWER than '..Said'. Prove '..Said' where nothing that the law and all that it calls make is longer than what came in: it says more and counts as full. Else prove '..UptoSaid'. A law counts once. -/
mutual
def uptoBulk {H : Type} : DataW H → Nat
  | .lit (.string bytes) => bytes.length + 1
  | .lit _ => 1
  | .nil => 1
  | .ptr d => uptoBulk d + 1
  | .slice elems spare => uptoBulkAll elems + uptoBulkAll spare + 1
  | .agg parts => uptoBulkAll parts + 1
  | .iface _ d => uptoBulk d + 1
  | .map entries => uptoBulkEntries entries + 1
  | .held _ => 1
def uptoBulkAll {H : Type} : List (DataW H) → Nat
  | [] => 0
  | d :: r => uptoBulk d + uptoBulkAll r
def uptoBulkEntries {H : Type} : List (Lit × DataW H) → Nat
  | [] => 0
  | x :: r => uptoBulkEntry x + uptoBulkEntries r
def uptoBulkEntry {H : Type} : Lit × DataW H → Nat
  | (.string bytes, d) => bytes.length + uptoBulk d + 1
  | (_, d) => uptoBulk d + 1
 end
def uptoSmall : (H : Type) → List (DataW H) → Bool := fun _ ds => decide (uptoBulkAll ds ≤ 1048576)
def OpenSpec.upto (s : _root_.Go.ChangeSpec) : _root_.Go.OpenSpec := { _root_.Go.OpenSpec.ofChange s with cond := some uptoSmall }

/-- 'laws.FnExactValidModel', WHERE WHAT IT READS IS OF BULK AT MOST 1048576: true; the input reads as it did. -/
def fnExactValidModelUptoRow : OpenClaim := { program := "ytjdcdcfhnpephaa", sum := "20a3c48a67239b8ca8f73a46e1ce980998b38b71c1059817a5ebc74803bd7714", func := "loop.example/g01026/laws.FnExactValidModel", spec := "fnExactValidModel", apart := false, narrowed := true }
def FnExactValidModelUptoSaid : Prop := fnExactValidModelUptoRow.holds Try.pinned (OpenSpec.upto fnExactValidModelSpec)

/-- 'laws.FnExactAreaOfModel', WHERE WHAT IT READS IS OF BULK AT MOST 1048576: true; the input reads as it did. -/
def fnExactAreaOfModelUptoRow : OpenClaim := { program := "ytjdcdcfhnpephaa", sum := "20a3c48a67239b8ca8f73a46e1ce980998b38b71c1059817a5ebc74803bd7714", func := "loop.example/g01026/laws.FnExactAreaOfModel", spec := "fnExactAreaOfModel", apart := false, narrowed := true }
def FnExactAreaOfModelUptoSaid : Prop := fnExactAreaOfModelUptoRow.holds Try.pinned (OpenSpec.upto fnExactAreaOfModelSpec)

/-- 'laws.FnExactDropAt', WHERE WHAT IT READS IS OF BULK AT MOST 1048576: true; the input reads as it did. -/
def fnExactDropAtUptoRow : OpenClaim := { program := "ytjdcdcfhnpephaa", sum := "20a3c48a67239b8ca8f73a46e1ce980998b38b71c1059817a5ebc74803bd7714", func := "loop.example/g01026/laws.FnExactDropAt", spec := "fnExactDropAt", apart := false, narrowed := true }
def FnExactDropAtUptoSaid : Prop := fnExactDropAtUptoRow.holds Try.pinned (OpenSpec.upto fnExactDropAtSpec)

/-- 'laws.FnExactContactsOf', WHERE WHAT IT READS IS OF BULK AT MOST 1048576: true; the input reads as it did. -/
def fnExactContactsOfUptoRow : OpenClaim := { program := "ytjdcdcfhnpephaa", sum := "20a3c48a67239b8ca8f73a46e1ce980998b38b71c1059817a5ebc74803bd7714", func := "loop.example/g01026/laws.FnExactContactsOf", spec := "fnExactContactsOf", apart := false, narrowed := true }
def FnExactContactsOfUptoSaid : Prop := fnExactContactsOfUptoRow.holds Try.pinned (OpenSpec.upto fnExactContactsOfSpec)

/-- 'laws.FnExactEclipsedShare', WHERE WHAT IT READS IS OF BULK AT MOST 1048576: true; the input reads as it did. -/
def fnExactEclipsedShareUptoRow : OpenClaim := { program := "ytjdcdcfhnpephaa", sum := "20a3c48a67239b8ca8f73a46e1ce980998b38b71c1059817a5ebc74803bd7714", func := "loop.example/g01026/laws.FnExactEclipsedShare", spec := "fnExactEclipsedShare", apart := false, narrowed := true }
def FnExactEclipsedShareUptoSaid : Prop := fnExactEclipsedShareUptoRow.holds Try.pinned (OpenSpec.upto fnExactEclipsedShareSpec)

/-- 'laws.FnExactModelMag', WHERE WHAT IT READS IS OF BULK AT MOST 1048576: true; the input reads as it did. -/
def fnExactModelMagUptoRow : OpenClaim := { program := "ytjdcdcfhnpephaa", sum := "20a3c48a67239b8ca8f73a46e1ce980998b38b71c1059817a5ebc74803bd7714", func := "loop.example/g01026/laws.FnExactModelMag", spec := "fnExactModelMag", apart := false, narrowed := true }
def FnExactModelMagUptoSaid : Prop := fnExactModelMagUptoRow.holds Try.pinned (OpenSpec.upto fnExactModelMagSpec)

/-- 'laws.FnExactModelSquares', WHERE WHAT IT READS IS OF BULK AT MOST 1048576: true; the input reads as it did. -/
def fnExactModelSquaresUptoRow : OpenClaim := { program := "ytjdcdcfhnpephaa", sum := "20a3c48a67239b8ca8f73a46e1ce980998b38b71c1059817a5ebc74803bd7714", func := "loop.example/g01026/laws.FnExactModelSquares", spec := "fnExactModelSquares", apart := false, narrowed := true }
def FnExactModelSquaresUptoSaid : Prop := fnExactModelSquaresUptoRow.holds Try.pinned (OpenSpec.upto fnExactModelSquaresSpec)

/-- 'laws.FnExactModelsOf', WHERE WHAT IT READS IS OF BULK AT MOST 1048576: true; the input reads as it did. -/
def fnExactModelsOfUptoRow : OpenClaim := { program := "ytjdcdcfhnpephaa", sum := "20a3c48a67239b8ca8f73a46e1ce980998b38b71c1059817a5ebc74803bd7714", func := "loop.example/g01026/laws.FnExactModelsOf", spec := "fnExactModelsOf", unfollowed := true, recurses := true, apart := false, narrowed := true }
def FnExactModelsOfUptoSaid : Prop := fnExactModelsOfUptoRow.holds Try.pinned (OpenSpec.upto fnExactModelsOfSpec)

/-- 'laws.FnExactBestModel', WHERE WHAT IT READS IS OF BULK AT MOST 1048576: true; the input reads as it did. -/
def fnExactBestModelUptoRow : OpenClaim := { program := "ytjdcdcfhnpephaa", sum := "20a3c48a67239b8ca8f73a46e1ce980998b38b71c1059817a5ebc74803bd7714", func := "loop.example/g01026/laws.FnExactBestModel", spec := "fnExactBestModel", unfollowed := true, recurses := true, apart := false, narrowed := true }
def FnExactBestModelUptoSaid : Prop := fnExactBestModelUptoRow.holds Try.pinned (OpenSpec.upto fnExactBestModelSpec)

end Rows
end Go.Proofs.Ytjdcdcfhnpephaa
