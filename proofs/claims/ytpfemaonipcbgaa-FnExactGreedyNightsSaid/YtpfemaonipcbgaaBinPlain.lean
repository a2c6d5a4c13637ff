/- Bins that are shown in a window: the program's rule and the reference's are one; no program in sight. -/
import Derived.Test.YtpfemaonipcbgaaEclPlain
namespace Go.Proofs.Ytpfemaonipcbgaa
open Go.RowKit

/-- the program: how long one waits for bin k -/
def binWait (p n f k : Int) : Int := if inB f (ceilI (k * p) n) (ceilI ((k + 1) * p) n - 1) then 0 else (ceilI (k * p) n - f) % p
/-- the reference -/
def binSpec (p n f g l k : Int) : Bool :=
  if p - 1 ≤ l then true else if g < f then decide (n * f / p ≤ k) || decide (k ≤ n * g / p) else decide (n * f / p ≤ k) && decide (k ≤ n * g / p)
theorem emod_back {a p : Int} (h1 : -p ≤ a) (h2 : a < 0) : a % p = a + p := by
  rw [← Int.add_emod_right]; exact Int.emod_eq_of_lt (by omega) (by omega)
theorem emod_fore {a p : Int} (h1 : p ≤ a) (h2 : a < 2 * p) : a % p = a - p := by
  rw [← Int.sub_emod_right]; exact Int.emod_eq_of_lt (by omega) (by omega)
theorem bin_facts {p n k : Int} (hn : 0 < n) (hp : n ≤ p) (hk : 0 ≤ k) (hkn : k < n) :
    0 ≤ ceilI (k * p) n ∧ ceilI (k * p) n + 1 ≤ ceilI ((k + 1) * p) n ∧ ceilI ((k + 1) * p) n ≤ p := by
  have hkp : 0 ≤ k * p := Int.mul_nonneg hk (by omega)
  have e1 : (k + 1) * p = k * p + p := by rw [Int.add_mul, Int.one_mul]
  refine ⟨?_, ?_, ?_⟩
  · by_cases c : 0 ≤ ceilI (k * p) n
    · exact c
    · have := (ceilI_le (a := k * p) (-1) hn).1 (by omega); omega
  · by_cases c : ceilI (k * p) n + 1 ≤ ceilI ((k + 1) * p) n
    · exact c
    · have a1 := (ceilI_le (a := (k + 1) * p) (ceilI ((k + 1) * p) n) hn).1 (Int.le_refl _)
      have a2 := (ceilI_le (a := k * p) (ceilI ((k + 1) * p) n - 1) hn).2 (by rw [Int.sub_mul]; omega)
      omega
  · rw [ceilI_le _ hn, Int.mul_comm p n]
    exact Int.mul_le_mul_of_nonneg_right (by omega) (by omega)
theorem bin_eq {p n f l k : Int} (hn : 0 < n) (hp : n ≤ p) (hf : 0 ≤ f) (hfp : f < p) (hl : 0 ≤ l) (hk : 0 ≤ k) (hkn : k < n) :
    decide (binWait p n f k ≤ l) = binSpec p n f ((f + l) % p) l k := by
  obtain ⟨b1, b2, b3⟩ := bin_facts hn hp hk hkn
  have hp0 : 0 < p := by omega
  have c1 : ∀ x, decide (k ≤ n * x / p) = decide (ceilI (k * p) n ≤ x) := fun x => by
    rw [decide_eq_decide, ceilI_le _ hn, le_floor _ hp0, Int.mul_comm n x]
  have c2 : ∀ x, decide (n * x / p ≤ k) = decide (x < ceilI ((k + 1) * p) n) := fun x => by
    rw [decide_eq_decide]
    have := ceilI_le (a := (k + 1) * p) x hn
    have h2 := le_floor (a := n * x) (k + 1) hp0
    rw [Int.mul_comm x n] at this
    omega
  unfold binSpec
  rw [c1, c2]
  unfold binWait
  clear c1 c2
  generalize ceilI (k * p) n = u at *
  generalize ceilI ((k + 1) * p) n = v at *
  have hm : ((u - f) % p = u - f ∧ f ≤ u) ∨ ((u - f) % p = u - f + p ∧ u < f) := by
    by_cases c : f ≤ u
    · exact .inl ⟨Int.emod_eq_of_lt (by omega) (by omega), c⟩
    · exact .inr ⟨emod_back (by omega) (by omega), by omega⟩
  by_cases hw : p - 1 ≤ l
  · rw [if_pos hw]
    have : (u - f) % p ≤ l := by omega
    split <;> simp <;> omega
  · rw [if_neg hw]
    have hg : ((f + l) % p = f + l ∧ f + l < p) ∨ ((f + l) % p = f + l - p ∧ p ≤ f + l) := by
      by_cases c : f + l < p
      · exact .inl ⟨Int.emod_eq_of_lt (by omega) c, c⟩
      · exact .inr ⟨emod_fore (by omega) (by omega), by omega⟩
    rcases hi : inB f u (v - 1) with _ | _
    · have hi' := inB_false.1 hi
      rw [if_neg (by simp)]
      split <;> rw [Bool.eq_iff_iff] <;> simp <;> omega
    · have hi' := inB_iff.1 hi
      rw [if_pos rfl]
      split <;> rw [Bool.eq_iff_iff] <;> simp <;> omega

/-! sets of numbers, as bits -/
def maskOf (f : Nat → Bool) : Nat → Nat
  | 0 => 0
  | n + 1 => maskOf f n + if f n then 2 ^ n else 0
theorem maskOf_lt (f : Nat → Bool) : ∀ n, maskOf f n < 2 ^ n
  | 0 => by simp [maskOf]
  | n + 1 => by
    have := maskOf_lt f n
    rw [maskOf, Nat.pow_succ]
    split <;> omega
theorem maskOf_test (f : Nat → Bool) : ∀ n i, (maskOf f n).testBit i = (decide (i < n) && f i)
  | 0, i => by simp [maskOf]
  | n + 1, i => by
    have hl := maskOf_lt f n
    have ih := maskOf_test f n i
    rw [maskOf]
    rcases hf : f n with _ | _
    · simp only [Bool.false_eq_true, if_false, Nat.add_zero]
      rw [ih]
      by_cases h : i = n
      · subst h; simp [hf]
      · rw [show decide (i < n + 1) = decide (i < n) by rw [decide_eq_decide]; omega]
    · simp only [if_true]
      rw [Nat.add_comm]
      rcases Nat.lt_trichotomy i n with h | h | h
      · rw [Nat.testBit_two_pow_add_gt h, ih]
        simp [show i < n + 1 by omega, h]
      · subst h
        rw [Nat.testBit_two_pow_add_eq, ih]; simp [hf]
      · rw [Nat.testBit_lt_two_pow]
        · simp [show ¬ i < n + 1 by omega]
        · have := Nat.pow_le_pow_right (show 2 > 0 by omega) (show n + 1 ≤ i by omega)
          rw [Nat.pow_succ] at this; omega
theorem maskOf_succ_or (f : Nat → Bool) (n : Nat) : maskOf f (n + 1) = if f n then maskOf f n ||| 2 ^ n else maskOf f n := by
  apply Nat.eq_of_testBit_eq
  intro i
  rw [maskOf_test]
  rcases hf : f n with _ | _
  · simp only [Bool.false_eq_true, if_false]
    rw [maskOf_test]
    by_cases h : i = n
    · subst h; simp [hf]
    · rw [show decide (i < n + 1) = decide (i < n) by rw [decide_eq_decide]; omega]
  · simp only [if_true]
    rw [Nat.testBit_or, maskOf_test, Nat.testBit_two_pow]
    by_cases h : n = i
    · subst h; simp [hf]
    · rw [show decide (i < n + 1) = decide (i < n) by rw [decide_eq_decide]; omega]
      simp [h]
theorem maskOf_or (f g : Nat → Bool) (n : Nat) : maskOf f n ||| maskOf g n = maskOf (fun i => f i || g i) n := by
  apply Nat.eq_of_testBit_eq
  intro i
  rw [Nat.testBit_or, maskOf_test, maskOf_test, maskOf_test]
  cases decide (i < n) <;> simp
theorem maskOf_none (n : Nat) : maskOf (fun _ => false) n = 0 := by
  induction n with
  | zero => rfl
  | succ n ih => simp [maskOf, ih]
theorem maskOf_inj {f g : Nat → Bool} {n : Nat} : maskOf f n = maskOf g n ↔ ∀ i, i < n → f i = g i := by
  constructor
  · intro h i hi
    have := congrArg (fun x => x.testBit i) h
    simpa [maskOf_test, hi] using this
  · intro h
    apply Nat.eq_of_testBit_eq
    intro i
    rw [maskOf_test, maskOf_test]
    by_cases hi : i < n
    · rw [h i hi]
    · simp [hi]
theorem maskOf_all (n : Nat) : maskOf (fun _ => true) n = 2 ^ n - 1 := by
  apply Nat.eq_of_testBit_eq
  intro i
  rw [maskOf_test, Nat.testBit_two_pow_sub_one]; simp
end Go.Proofs.Ytpfemaonipcbgaa
