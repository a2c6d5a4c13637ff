/- The index of a greatest key, the first of equal ones; no program in sight. -/
import Derived.Test.YtehfbpdjhkdchaaRow
namespace Go.Proofs.Ytehfbpdjhkdchaa
open Go.RowKit
def maxGo (rs : List Int) (k best : Nat) : List Int → Nat
  | [] => best
  | x :: r => maxGo rs (k + 1) (if rs.getD best 0 < x then k else best) r
theorem maxGo_nil {rs : List Int} {k best : Nat} : maxGo rs k best [] = best := rfl
theorem maxGo_pos {rs : List Int} {k best : Nat} {x : Int} {r : List Int} (h : rs.getD best 0 < x) : maxGo rs k best (x :: r) = maxGo rs (k + 1) k r := by rw [maxGo, if_pos h]
theorem maxGo_neg {rs : List Int} {k best : Nat} {x : Int} {r : List Int} (h : ¬ rs.getD best 0 < x) : maxGo rs k best (x :: r) = maxGo rs (k + 1) best r := by rw [maxGo, if_neg h]
theorem maxGo_start {rs : List Int} (h : 0 < rs.length) : maxGo rs 0 0 rs = maxGo rs 1 0 (rs.drop 1) := by
  obtain ⟨x, r, rfl⟩ : ∃ x r, rs = x :: r := by cases rs with | nil => simp at h | cons x r => exact ⟨x, r, rfl⟩
  rw [maxGo_neg (x := x) (r := r) (by simp)]; rfl
attribute [irreducible] maxGo
end Go.Proofs.Ytehfbpdjhkdchaa
