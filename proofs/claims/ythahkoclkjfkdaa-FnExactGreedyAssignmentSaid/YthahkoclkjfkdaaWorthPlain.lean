/- Tables of worths, assignments and the greatest worths, in plain lists; no program in sight. -/
import Derived.Test.YthahkoclkjfkdaaRow
import Derived.Test.YthahkoclkjfkdaaPlain
namespace Go.Proofs.Ythahkoclkjfkdaa
open Go.RowKit

def rowB (n0 : Nat) (xs : List Int) : Bool := decide (1 ≤ xs.length) && decide (xs.length ≤ 8) && decide (xs.length = n0) && xs.all fun x => inB x 0 1000
def wid (xss : List (List Int)) : Nat := (xss.getD 0 []).length
def worthsB (xss : List (List Int)) : Bool := decide (1 ≤ xss.length) && decide (xss.length ≤ 6) && xss.all (rowB (wid xss))
theorem worthsB_fine {xss : List (List Int)} (h : worthsB xss = true) : 1 ≤ xss.length ∧ xss.length ≤ 6 ∧ 1 ≤ wid xss ∧ wid xss ≤ 8 ∧ ∀ xs ∈ xss, xs.length = wid xss ∧ ∀ x ∈ xs, 0 ≤ x ∧ x ≤ 1000 := by
  unfold worthsB at h
  simp only [Bool.and_eq_true, decide_eq_true_eq, List.all_eq_true] at h
  obtain ⟨⟨h1, h2⟩, h3⟩ := h
  have key : ∀ xs ∈ xss, 1 ≤ xs.length ∧ xs.length ≤ 8 ∧ xs.length = wid xss ∧ ∀ x ∈ xs, 0 ≤ x ∧ x ≤ 1000 := by
    intro xs hx
    have := h3 xs hx
    unfold rowB at this
    simp only [Bool.and_eq_true, decide_eq_true_eq, List.all_eq_true] at this
    obtain ⟨⟨⟨k1, k2⟩, k3⟩, k4⟩ := this
    exact ⟨k1, k2, k3, fun x hx => inB_iff.1 (k4 x hx)⟩
  cases xss with
  | nil => simp at h1
  | cons x r =>
    have := key x List.mem_cons_self
    exact ⟨h1, h2, by omega, by omega, fun xs hx => ⟨(key xs hx).2.2.1, (key xs hx).2.2.2⟩⟩
theorem getD_of {α : Type} {xs : List α} {k : Nat} {x d : α} (h : xs[k]? = some x) : xs.getD k d = x := by simp [List.getD, h]
/-- no star is told twice: from the place k on -/
def apartB (xs : List Int) (k : Nat) : List Int → Bool
  | [] => true
  | s :: r => !(decide (0 ≤ s) && decide (s ∈ xs.take k)) && apartB xs (k + 1) r
def assignCode (xss : List (List Int)) (ls : List Int) : Int :=
  if !worthsB xss then 1 else if !decide (ls.length = xss.length) then 2 else if !(ls.all fun x => inB x (-1) ((wid xss : Int) - 1)) then 2 else 0
def isAssI (xss : List (List Int)) (ls : List Int) : Bool × Int := if assignCode xss ls ≠ 0 then (false, assignCode xss ls) else (apartB ls 0 ls, 0)
/-- the worth of an assignment, from the place k on -/
def worthFrom (xss : List (List Int)) (k : Nat) : List Int → Int
  | [] => 0
  | s :: r => (if 0 ≤ s then (xss.getD k []).getD s.toNat 0 else 0) + worthFrom xss (k + 1) r
def worthI (xss : List (List Int)) (ls : List Int) : Int × Int :=
  if assignCode xss ls ≠ 0 then (0, assignCode xss ls) else if !apartB ls 0 ls then (0, 6) else (worthFrom xss 0 ls, 0)
end Go.Proofs.Ythahkoclkjfkdaa
