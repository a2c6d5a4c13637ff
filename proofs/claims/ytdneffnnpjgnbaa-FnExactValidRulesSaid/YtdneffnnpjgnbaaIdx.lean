/- The first place at which a predicate holds; what a predicate keeps of a list; no program in sight. -/
import Derived.Test.YtdneffnnpjgnbaaRow
namespace Go.Proofs.Ytdneffnnpjgnbaa
open Go.RowKit

def idxFrom {α : Type} (p : α → Bool) (k : Int) : List α → Int
  | [] => -1
  | x :: r => if p x then k else idxFrom p (k + 1) r
theorem idxFrom_nil {α : Type} (p : α → Bool) (k : Int) : idxFrom p k [] = -1 := rfl
theorem idxFrom_hit {α : Type} {p : α → Bool} {k : Int} {x : α} {r : List α} (h : p x = true) : idxFrom p k (x :: r) = k := by simp [idxFrom, h]
theorem idxFrom_miss {α : Type} {p : α → Bool} {k : Int} {x : α} {r : List α} (h : p x = false) : idxFrom p k (x :: r) = idxFrom p (k + 1) r := by simp [idxFrom, h]
theorem idxFrom_any {α : Type} (p : α → Bool) : ∀ (xs : List α) (k : Int), 0 ≤ k → decide (0 ≤ idxFrom p k xs) = xs.any p
  | [], k, _ => by simp [idxFrom]
  | x :: r, k, h => by
    rcases hp : p x with _ | _
    · rw [idxFrom_miss hp, idxFrom_any p r (k + 1) (by omega)]; simp [hp]
    · rw [idxFrom_hit hp]; simp [hp, h]
theorem idxFrom_bd {α : Type} (p : α → Bool) : ∀ (xs : List α) (k : Int), 0 ≤ k → idxFrom p k xs = -1 ∨ (k ≤ idxFrom p k xs ∧ idxFrom p k xs < k + xs.length)
  | [], k, _ => .inl rfl
  | x :: r, k, h => by
    rcases hp : p x with _ | _
    · rw [idxFrom_miss hp]
      have := idxFrom_bd p r (k + 1) (by omega)
      simp only [List.length_cons, Int.natCast_add, Int.natCast_one]; omega
    · rw [idxFrom_hit hp]
      simp only [List.length_cons, Int.natCast_add, Int.natCast_one]; omega

theorem filter_take_pos {α : Type} {p : α → Bool} {xs : List α} {k : Nat} {x : α} (h : xs[k]? = some x) (hp : p x = true) : (xs.take (k + 1)).filter p = (xs.take k).filter p ++ [x] := by
  rw [take_snoc_of h, List.filter_append]; simp [hp]
theorem filter_take_neg {α : Type} {p : α → Bool} {xs : List α} {k : Nat} {x : α} (h : xs[k]? = some x) (hp : p x = false) : (xs.take (k + 1)).filter p = (xs.take k).filter p := by
  rw [take_snoc_of h, List.filter_append]; simp [hp]
theorem filter_take_len {α : Type} (p : α → Bool) (xs : List α) (k : Nat) : ((xs.take k).filter p).length ≤ k := by
  have h1 := List.length_filter_le p (xs.take k)
  have h2 := List.length_take_le k xs
  omega
end Go.Proofs.Ytdneffnnpjgnbaa
