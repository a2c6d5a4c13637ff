/- Putting an index into a rising list; no program in sight. -/
import Derived.Test.YtpfemaonipcbgaaGain
namespace Go.Proofs.Ytpfemaonipcbgaa

def putL : List Int → Int → List Int
  | [], n => [n]
  | x :: r, n => if n ≤ x then (if n < x then n :: x :: r else x :: r) else x :: putL r n
theorem putL_lt {x n : Int} (r : List Int) (h : n < x) : putL (x :: r) n = n :: x :: r := by simp [putL, h, Int.le_of_lt h]
theorem putL_eq {x n : Int} (r : List Int) (h : n = x) : putL (x :: r) n = x :: r := by simp [putL, h]
theorem putL_gt {x n : Int} (r : List Int) (h : x < n) : putL (x :: r) n = x :: putL r n := by simp [putL, show ¬ n ≤ x by omega]
theorem putL_len (n : Int) : ∀ xs : List Int, (putL xs n).length ≤ xs.length + 1
  | [] => by simp [putL]
  | x :: r => by
    have := putL_len n r
    unfold putL
    split
    · split <;> simp
    · simp; omega
theorem putL_low {n y : Int} (h : n < y) : ∀ xs : List Int, putL (xs ++ [y]) n = putL xs n ++ [y]
  | [] => by rw [List.nil_append, putL_lt _ h]; rfl
  | x :: r => by
    rw [List.cons_append]
    unfold putL
    split
    · split <;> rfl
    · rw [putL_low h r]; rfl
theorem putL_high {n : Int} : ∀ (xs ys : List Int), (∀ x ∈ xs, x < n) → putL (xs ++ ys) n = xs ++ putL ys n
  | [], _, _ => rfl
  | x :: r, ys, h => by
    rw [List.cons_append, putL_gt _ (h x (List.mem_cons_self ..)), putL_high r ys fun z hz => h z (List.mem_cons_of_mem _ hz)]; rfl
theorem idxL_lt {p : Nat → Bool} {n : Nat} : ∀ x ∈ idxL p n, x < (n : Int) := by
  intro x hx
  unfold idxL at hx
  obtain ⟨i, hi, rfl⟩ := List.mem_map.1 hx
  have := List.mem_range.1 (List.mem_filter.1 hi).1
  omega
theorem put_idx (t : Nat → Bool) (k : Nat) : ∀ M, k < M → putL (idxL t M) k = idxL (fun i => t i || i == k) M
  | 0, h => by omega
  | M + 1, h => by
    rcases Nat.lt_or_ge k M with c | c
    · have ih := put_idx t k M c
      have hkM : (M == k) = false := by simp; omega
      rcases ht : t M with _ | _
      · rw [idxL_neg ht, idxL_neg (by simp [ht]; omega), ih]
      · rw [idxL_pos ht, idxL_pos (by simp [ht]), putL_low (by omega), ih]
    · have hk : k = M := by omega
      subst hk
      have e : idxL (fun i => t i || i == k) k = idxL t k := by
        unfold idxL
        congr 1
        refine List.filter_congr fun i hi => ?_
        have := List.mem_range.1 hi
        simp; omega
      rw [idxL_pos (p := fun i => t i || i == k) (n := k) (by simp), e]
      rcases ht : t k with _ | _
      · have h1 := putL_high (n := (k : Int)) (idxL t k) [] idxL_lt
        rw [List.append_nil] at h1
        rw [idxL_neg ht, h1]; rfl
      · rw [idxL_pos ht, putL_high _ _ idxL_lt, putL_eq _ rfl]
end Go.Proofs.Ytpfemaonipcbgaa
