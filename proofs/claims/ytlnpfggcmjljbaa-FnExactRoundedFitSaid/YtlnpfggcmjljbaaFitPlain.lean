/- The line with the least squares through minima: sums, bounds; no program in sight. -/
import Derived.Test.YtlnpfggcmjljbaaMinima
namespace Go.Proofs.Ytlnpfggcmjljbaa
open Go.RowKit

def sumF (f : Int × Int → Int) (xs : List (Int × Int)) : Int := (xs.map f).sum
theorem sumF_nil (f : Int × Int → Int) : sumF f [] = 0 := rfl
theorem sumF_snoc (f : Int × Int → Int) (xs : List (Int × Int)) (y : Int × Int) : sumF f (xs ++ [y]) = sumF f xs + f y := by simp [sumF]
theorem sumF_bd (f : Int × Int → Int) (lo hi : Int) : ∀ xs : List (Int × Int), (∀ x ∈ xs, lo ≤ f x ∧ f x ≤ hi) → lo * xs.length ≤ sumF f xs ∧ sumF f xs ≤ hi * xs.length
  | [], _ => by simp [sumF]
  | x :: r, h => by
    have h1 := h x (by simp)
    have h2 := sumF_bd f lo hi r (fun y hy => h y (by simp [hy]))
    simp only [sumF, List.map_cons, List.sum_cons, List.length_cons, Int.natCast_add, Int.natCast_one, Int.mul_add, Int.mul_one] at h2 ⊢
    omega
def pairP (v : Int × Int → Int) (xs : List (Int × Int)) : Int := xs.length * sumF (fun x => x.1 * v x) xs - sumF (·.1) xs * sumF v xs
def crossP (v : Int × Int → Int) (y : Int × Int) (xs : List (Int × Int)) : Int := sumF (fun x => (y.1 - x.1) * (v y - v x)) xs
theorem cross_eq (v : Int × Int → Int) (y : Int × Int) (xs : List (Int × Int)) :
    crossP v y xs = xs.length * (y.1 * v y) - y.1 * sumF v xs - v y * sumF (·.1) xs + sumF (fun x => x.1 * v x) xs := by
  unfold crossP
  induction xs with
  | nil => simp [sumF]
  | cons x r ih =>
    simp only [sumF, List.map_cons, List.sum_cons, List.length_cons, Int.natCast_add, Int.natCast_one] at ih ⊢
    rw [ih]; grind
theorem pairP_snoc (v : Int × Int → Int) (xs : List (Int × Int)) (y : Int × Int) : pairP v (xs ++ [y]) = pairP v xs + crossP v y xs := by
  rw [cross_eq]
  simp only [pairP, sumF_snoc, List.length_append, List.length_singleton, Int.natCast_add, Int.natCast_one]
  grind
def tri : Nat → Nat
  | 0 => 0
  | k + 1 => tri k + k
theorem tri_le {k : Nat} (h : k ≤ 50) : tri k ≤ 1225 := by
  have := (by decide : ∀ k : Fin 51, tri k ≤ 1225) ⟨k, by omega⟩
  exact this
theorem tri_pos {k : Nat} (h : 2 ≤ k) : 1 ≤ tri k := by
  obtain ⟨j, rfl⟩ : ∃ j, k = j + 1 := ⟨k - 1, by omega⟩
  simp only [tri]; omega
theorem mem_take_get {α : Type} {xs : List α} {k : Nat} {x : α} (h : x ∈ xs.take k) : ∃ i, i < k ∧ xs[i]? = some x := by
  obtain ⟨i, hi⟩ := List.mem_iff_getElem?.1 h
  rw [List.getElem?_take] at hi
  split at hi
  · exact ⟨i, ‹_›, hi⟩
  · cases hi
theorem pairP_bd (v : Int × Int → Int) (xs : List (Int × Int)) (lo B : Int) (h : ∀ (i j : Nat) (x y : Int × Int), i < j → xs[i]? = some x → xs[j]? = some y → lo ≤ (y.1 - x.1) * (v y - v x) ∧ (y.1 - x.1) * (v y - v x) ≤ B) :
    ∀ k, k ≤ xs.length → lo * (tri k : Nat) ≤ pairP v (xs.take k) ∧ pairP v (xs.take k) ≤ B * (tri k : Nat)
  | 0, _ => by simp [pairP, sumF, tri]
  | k + 1, hk => by
    have ih := pairP_bd v xs lo B h k (by omega)
    have hx : xs[k]? = some xs[k] := by simp
    have hc := sumF_bd (fun x => (xs[k].1 - x.1) * (v xs[k] - v x)) lo B (xs.take k) (fun x hm => by
      obtain ⟨i, hi, hix⟩ := mem_take_get hm
      exact h i k x _ hi hix hx)
    have hl : (xs.take k).length = k := by rw [List.length_take]; omega
    rw [hl] at hc
    rw [take_snoc_of hx, pairP_snoc]
    simp only [tri, Int.natCast_add, Int.mul_add]
    unfold crossP
    omega
/-! minima rise -/
theorem minOk_rises : ∀ (xs : List (Int × Int)) (prev : Option (Int × Int)), minOk prev xs = true →
    (∀ (p : Int × Int), prev = some p → ∀ (k : Nat) (x : Int × Int), xs[k]? = some x → p.1 < x.1 ∧ p.2 < x.2) ∧ (∀ (i j : Nat) (x y : Int × Int), i < j → xs[i]? = some x → xs[j]? = some y → x.1 < y.1 ∧ x.2 < y.2)
  | [], _, _ => ⟨fun _ _ _ _ h => by simp at h, fun _ _ _ _ _ h => by simp at h⟩
  | (a, b) :: r, prev, h => by
    obtain ⟨_, ht⟩ := minOk_tail h
    obtain ⟨i1, i2⟩ := minOk_rises r (some (a, b)) ht
    refine ⟨fun p hp k x hk => ?_, fun i j x y hij hx hy => ?_⟩
    · subst hp
      simp [minOk] at h
      have hab : p.1 < a ∧ p.2 < b := h.1.2
      match k, hk with
      | 0, hk => simp at hk; subst hk; exact hab
      | k + 1, hk =>
        have := i1 _ rfl k x (by simpa using hk)
        omega
    · match i, j, hij, hx, hy with
      | 0, j + 1, _, hx, hy => simp at hx; subst hx; exact i1 _ rfl j y (by simpa using hy)
      | i + 1, j + 1, hij, hx, hy => exact i2 i j x y (by omega) (by simpa using hx) (by simpa using hy)
theorem minima_lt {xs : List (Int × Int)} (h : minimaB xs = true) {i j : Nat} {x y : Int × Int} (hij : i < j) (hx : xs[i]? = some x) (hy : xs[j]? = some y) : x.1 < y.1 ∧ x.2 < y.2 := by
  simp [minimaB] at h
  exact (minOk_rises xs none h.2).2 i j x y hij hx hy
theorem minima_le {xs : List (Int × Int)} (h : minimaB xs = true) {i j : Nat} {x y : Int × Int} (hij : i ≤ j) (hx : xs[i]? = some x) (hy : xs[j]? = some y) : x.1 ≤ y.1 ∧ x.2 ≤ y.2 := by
  rcases Nat.lt_or_ge i j with h1 | h1
  · have := minima_lt h h1 hx hy; omega
  · have e : i = j := by omega
    subst e; rw [hx] at hy; cases hy; exact ⟨Int.le_refl _, Int.le_refl _⟩
def spanB (xs : List (Int × Int)) : Int := (xs.getD (xs.length - 1) (0, 0)).1 - (xs.getD 0 (0, 0)).1
theorem getD_of {α : Type} {xs : List α} {k : Nat} {x d : α} (h : xs[k]? = some x) : xs.getD k d = x := by simp [List.getD, h]
/-- the numerators and denominators ahead of shortening -/
def fitN (xs : List (Int × Int)) : Int := pairP (·.2) xs
def fitD (xs : List (Int × Int)) : Int := pairP (·.1) xs
def fitA (xs : List (Int × Int)) : Int := sumF (·.2) xs * fitD xs - fitN xs * sumF (·.1) xs
def fitB (xs : List (Int × Int)) : Int := xs.length * fitD xs
theorem mul_in {a b A B : Int} (a0 : 0 ≤ a) (a1 : a ≤ A) (b0 : 0 ≤ b) (b1 : b ≤ B) : 0 ≤ a * b ∧ a * b ≤ A * B :=
  ⟨Int.mul_nonneg a0 b0, Int.mul_le_mul a1 b1 b0 (by omega)⟩
theorem mul_in' {a b A B : Int} (a0 : -A ≤ a) (a1 : a ≤ A) (b0 : 0 ≤ b) (b1 : b ≤ B) : -(A * B) ≤ a * b ∧ a * b ≤ A * B := by
  have hA : 0 ≤ A := by omega
  have h1 := Int.mul_le_mul_of_nonneg_right a1 b0
  have h2 := Int.mul_le_mul_of_nonneg_right a0 b0
  have h3 := Int.mul_le_mul_of_nonneg_left b1 hA
  rw [Int.neg_mul] at h2
  omega
theorem fit_bd {xs : List (Int × Int)} (h : minimaB xs = true) (h2 : 2 ≤ xs.length) (hs : spanB xs ≤ 1000) :
    -500000 ≤ sumF (·.1) xs ∧ sumF (·.1) xs ≤ 500000 ∧ 0 ≤ sumF (·.2) xs ∧ sumF (·.2) xs ≤ 500000000 ∧ 0 ≤ fitN xs ∧ fitN xs ≤ 12250000000000 ∧ 1 ≤ fitD xs ∧ fitD xs ≤ 1225000000 := by
  have hl := minimaB_len h
  have hg : ∀ x ∈ xs, -10000 ≤ x.1 ∧ x.1 ≤ 10000 ∧ 0 ≤ x.2 ∧ x.2 ≤ 10000000 := fun x hx => by
    obtain ⟨i, hi⟩ := List.mem_iff_getElem?.1 hx
    exact minimaB_get h hi
  have s1 := sumF_bd (·.1) (-10000) 10000 xs (fun x hx => by have := hg x hx; omega)
  have s2 := sumF_bd (·.2) 0 10000000 xs (fun x hx => by have := hg x hx; omega)
  have hf : xs[0]? = some xs[0] := by simp
  have hlast : xs[xs.length - 1]? = some (xs[xs.length - 1]'(by omega)) := by simp
  unfold spanB at hs
  rw [getD_of hf, getD_of hlast] at hs
  have hd : ∀ (i j : Nat) (x y : Int × Int), i < j → xs[i]? = some x → xs[j]? = some y → 1 ≤ y.1 - x.1 ∧ y.1 - x.1 ≤ 1000 ∧ 1 ≤ y.2 - x.2 ∧ y.2 - x.2 ≤ 10000000 := fun i j x y hij hx hy => by
    have hj : j < xs.length := (List.getElem?_eq_some_iff.1 hy).1
    have q1 := minima_lt h hij hx hy
    have q2 := minima_le h (Nat.zero_le i) hf hx
    have q3 := minima_le h (show j ≤ xs.length - 1 by omega) hy hlast
    have q4 := minimaB_get h hx
    have q5 := minimaB_get h hy
    omega
  have ht := tri_le hl
  have hp := tri_pos h2
  have n1 := pairP_bd (·.2) xs 0 10000000000 (fun i j x y hij hx hy => by
    obtain ⟨p1, p2, p3, p4⟩ := hd i j x y hij hx hy
    exact mul_in (A := 1000) (B := 10000000) (by omega) p2 (by omega) p4) xs.length (Nat.le_refl _)
  have n2 := pairP_bd (·.1) xs 1 1000000 (fun i j x y hij hx hy => by
    obtain ⟨p1, p2, p3, p4⟩ := hd i j x y hij hx hy
    have := mul_in (A := 1000) (B := 1000) (a := y.1 - x.1) (b := y.1 - x.1) (by omega) p2 (by omega) p2
    refine ⟨?_, this.2⟩
    have := Int.mul_le_mul p1 p1 (by omega) (show 0 ≤ y.1 - x.1 by omega)
    omega) xs.length (Nat.le_refl _)
  rw [List.take_of_length_le (Nat.le_refl _)] at n1 n2
  unfold fitN fitD
  omega
/-- in lowest terms ahead or behind: the same -/
theorem gcdI_mul (a b g : Int) (hg : 1 ≤ g) : gcdI (a * g) (b * g) = gcdI a b * g := by
  unfold gcdI
  rw [Int.gcd_mul_right, Int.natCast_mul]
  congr 1; omega
theorem fracN_mul (a b g : Int) (hg : 1 ≤ g) (hb : b ≠ 0) : fracN (a * g) (b * g) = fracN a b := by
  unfold fracN
  rw [gcdI_mul a b g hg]
  exact Int.mul_tdiv_mul_of_pos_left a _ (by omega)
theorem fracD_mul (a b g : Int) (hg : 1 ≤ g) (hb : b ≠ 0) : fracD (a * g) (b * g) = fracD a b := by
  unfold fracD
  rw [gcdI_mul a b g hg]
  exact Int.mul_ediv_mul_of_pos_left _ _ (by omega)
theorem fracN_ex (a b : Int) (ha : 0 ≤ a) : fracN a b * gcdI a b = a ∧ fracN a b = a / gcdI a b := by
  have hd : gcdI a b ∣ a := Int.gcd_dvd_left a b
  have e : fracN a b = a / gcdI a b := by unfold fracN; exact Int.tdiv_eq_ediv_of_nonneg ha
  exact ⟨by rw [e]; exact Int.ediv_mul_cancel hd, e⟩
theorem fracD_ex (a b : Int) : fracD a b * gcdI a b = b := by
  unfold fracD
  exact Int.ediv_mul_cancel (Int.gcd_dvd_right a b)
theorem fit_short (T C n N D : Int) (hN : 0 ≤ N) (hD : 1 ≤ D) (hn : 1 ≤ n) :
    fracN (T * fracD N D - fracN N D * C) (n * fracD N D) = fracN (T * D - N * C) (n * D) ∧ fracD (T * fracD N D - fracN N D * C) (n * fracD N D) = fracD (T * D - N * C) (n * D) := by
  have hg := gcdI_pos N D (by omega)
  have e1 := (fracN_ex N D hN).1
  have e2 := fracD_ex N D
  have hp : fracD N D ≠ 0 := by intro e; rw [e] at e2; simp at e2; omega
  have k1 : (T * fracD N D - fracN N D * C) * gcdI N D = T * D - N * C := by
    generalize gcdI N D = g at *
    generalize fracD N D = y at *
    generalize fracN N D = x at *
    subst e1 e2; grind
  have k2 : (n * fracD N D) * gcdI N D = n * D := by rw [Int.mul_assoc, e2]
  have hnb : n * fracD N D ≠ 0 := Int.mul_ne_zero (by omega) hp
  rw [← k1, ← k2]
  exact ⟨(fracN_mul _ _ _ hg hnb).symm, (fracD_mul _ _ _ hg hnb).symm⟩
theorem fracD_le (a b : Int) (hb : 1 ≤ b) : 1 ≤ fracD a b ∧ fracD a b ≤ b := by
  have hg := gcdI_pos a b (by omega)
  have e := fracD_ex a b
  unfold fracD at *
  have h0 := Int.ediv_nonneg (show 0 ≤ b by omega) (show 0 ≤ gcdI a b by omega)
  have h1 := Int.ediv_le_self (gcdI a b) (show 0 ≤ b by omega)
  refine ⟨?_, h1⟩
  rcases Int.lt_or_le 0 (b / gcdI a b) with h | h
  · omega
  · have : b / gcdI a b = 0 := by omega
    rw [this] at e; omega
theorem fracN_le (a b : Int) (ha : 0 ≤ a) : 0 ≤ fracN a b ∧ fracN a b ≤ a := by
  rw [(fracN_ex a b ha).2]
  exact ⟨Int.ediv_nonneg ha (by unfold gcdI; omega), Int.ediv_le_self _ ha⟩
end Go.Proofs.Ytlnpfggcmjljbaa
