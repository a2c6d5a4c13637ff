/- Plain functions on integers and lists that the program's functions compute; no program in sight. -/
import Derived.IntWalk
import Derived.RowKit
namespace Go.Proofs.Ytdneffnnpjgnbab
open Go.RowKit

def inB (n l h : Int) : Bool := decide (l ≤ n) && decide (n ≤ h)
theorem inB_iff {n l h : Int} : inB n l h = true ↔ l ≤ n ∧ n ≤ h := by simp [inB]
theorem inB_false {n l h : Int} : inB n l h = false ↔ ¬ (l ≤ n ∧ n ≤ h) := by simp [inB]
def timeB (t : Int) : Bool := inB t 0 10000000
def magB (t : Int) : Bool := inB t (-2000) 20000
theorem timeB_iff {t : Int} : timeB t = true ↔ 0 ≤ t ∧ t ≤ 10000000 := inB_iff
theorem magB_iff {t : Int} : magB t = true ↔ -2000 ≤ t ∧ t ≤ 20000 := inB_iff

def modelB (a b c : Int) : Bool := decide (1 ≤ a ∧ a ≤ 5000 ∧ 0 ≤ c ∧ c < b ∧ b ≤ 1000000)
theorem modelB_iff {a b c : Int} : modelB a b c = true ↔ 1 ≤ a ∧ a ≤ 5000 ∧ 0 ≤ c ∧ c < b ∧ b ≤ 1000000 := by simp [modelB]
def ephB (e p : Int) : Bool := timeB e && inB p 1 1000000
theorem ephB_iff {e p : Int} : ephB e p = true ↔ 0 ≤ e ∧ e ≤ 10000000 ∧ 1 ≤ p ∧ p ≤ 1000000 := by simp [ephB, timeB_iff, inB_iff, and_assoc]

/-- the nearest integer of n / d, halves up; d is positive -/
def roundI (n d : Int) : Int := (2 * n + d) / (2 * d)
theorem roundI_eq (n d : Int) (h : 0 < d) : roundI n d = if d - (n - n / d * d) ≤ n - n / d * d then n / d + 1 else n / d := by
  unfold roundI
  have h0 := Int.emod_nonneg n (show d ≠ 0 by omega)
  have h1 := Int.emod_lt_of_pos n h
  have h2 := Int.emod_add_mul_ediv n d
  have h3 : n - n / d * d = n % d := by rw [Int.mul_comm]; omega
  rw [h3]
  generalize n % d = r at *
  generalize n / d = q at *
  have e : 2 * n + d = (2 * r + d) + q * (2 * d) := by rw [← h2]; rw [Int.mul_add, Int.mul_left_comm q 2 d, Int.mul_comm q d]; omega
  rw [e, Int.add_mul_ediv_right _ _ (by omega)]
  split
  · rw [show (2 * r + d) / (2 * d) = 1 from by
      rw [show 2 * r + d = (2 * r - d) + 1 * (2 * d) by omega, Int.add_mul_ediv_right _ _ (by omega), Int.ediv_eq_zero_of_lt (by omega) (by omega)]; rfl]
    omega
  · rw [Int.ediv_eq_zero_of_lt (by omega) (by omega)]; omega

def absI (n : Int) : Int := if n < 0 then -n else n
def minI (a b : Int) : Int := if a < b then a else b
def maxI (a b : Int) : Int := if a > b then a else b

def dropI (a b c d : Int) : Int := if d ≤ c then a else if b ≤ d then 0 else roundI (a * (b - d)) (b - c)

/-- the greatest common divisor -/
def gcdI (a b : Int) : Int := (Int.gcd a b : Int)
theorem gcdI_pos (a b : Int) (h : b ≠ 0) : 1 ≤ gcdI a b := by
  have : 0 < Int.gcd a b := Int.gcd_pos_of_ne_zero_right a h
  unfold gcdI; omega
theorem gcdI_le (a b : Int) (h : 0 < b) : gcdI a b ≤ b := by
  unfold gcdI
  exact Int.le_of_dvd h (Int.gcd_dvd_right a b)
theorem gcdI_abs (a b : Int) : gcdI (absI a) b = gcdI a b := by
  unfold absI gcdI; split
  · simp
  · rfl
theorem gcdI_step (a b : Int) : gcdI b (a.tmod b) = gcdI a b := by
  unfold gcdI
  congr 1
  have e : a.tmod b = a - b * a.tdiv b := by have := Int.mul_tdiv_add_tmod a b; omega
  rw [e, Int.gcd_comm a b]
  rw [Int.gcd_sub_mul_left_right] <;> rfl
theorem gcdI_zero (a : Int) : gcdI a 0 = absI a := by
  unfold gcdI absI; rw [Int.gcd_zero_right]; split <;> omega

end Go.Proofs.Ytdneffnnpjgnbab
