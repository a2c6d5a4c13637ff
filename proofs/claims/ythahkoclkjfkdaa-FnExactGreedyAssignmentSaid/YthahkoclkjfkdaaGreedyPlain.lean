/- The assignment that takes the greatest worth again and again, in plain lists; no program in sight. -/
import Derived.Test.YthahkoclkjfkdaaWorthPlain
namespace Go.Proofs.Ythahkoclkjfkdaa
open Go.RowKit

/-- what a scan has found: an observer, a star, a worth above 0 -/
def better (st : Option (Nat × Nat × Int)) (x : Int) : Bool := match st with
  | none => decide (0 < x)
  | some (_, _, m) => decide (m < x)
def free (out : List Int) (i k : Nat) : Bool := decide (out.getD i 0 < 0) && !decide ((k : Int) ∈ out)
def scanRow (out : List Int) (i k : Nat) (st : Option (Nat × Nat × Int)) : List Int → Option (Nat × Nat × Int)
  | [] => st
  | x :: r => scanRow out i (k + 1) (if free out i k && better st x then some (i, k, x) else st) r
def scanAll (out : List Int) (i : Nat) (st : Option (Nat × Nat × Int)) : List (List Int) → Option (Nat × Nat × Int)
  | [] => st
  | row :: r => scanAll out (i + 1) (scanRow out i 0 st row) r
def greedyF (ws : List (List Int)) : Nat → List Int → List Int
  | 0, out => out
  | n + 1, out => match scanAll out 0 none ws with
    | none => out
    | some (i, k, _) => greedyF ws n (out.set i (k : Int))
def greedyI (ws : List (List Int)) : List Int × Int := if !worthsB ws then ([], 1) else (greedyF ws (ws.length + 1) (List.replicate ws.length (-1)), 0)
theorem greedyF_len (ws : List (List Int)) : ∀ n out, (greedyF ws n out).length = out.length
  | 0, _ => rfl
  | n + 1, out => by
    unfold greedyF
    split
    · rfl
    · rw [greedyF_len ws n, List.length_set]
end Go.Proofs.Ythahkoclkjfkdaa
