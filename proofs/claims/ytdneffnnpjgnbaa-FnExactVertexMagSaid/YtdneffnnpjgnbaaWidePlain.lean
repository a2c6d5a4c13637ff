/- Wide numbers: their digits to the base 1000000000, and what a parabola's vertex is; no program in sight. -/
import Derived.Test.YtdneffnnpjgnbaaPlain
namespace Go.Proofs.Ytdneffnnpjgnbaa

def wsum (f : Nat → Int) : Nat → Int
  | 0 => 0
  | n + 1 => wsum f n + f n * 1000000000 ^ n
def digs (f : Nat → Int) : Prop := ∀ i, 0 ≤ f i ∧ f i < 1000000000
def upd (f : Nat → Int) (j : Nat) (d : Int) : Nat → Int := fun i => if i = j then d else f i
theorem upd_same (f : Nat → Int) (j : Nat) (d : Int) : upd f j d j = d := by simp [upd]
theorem upd_ne (f : Nat → Int) {j i : Nat} (d : Int) (h : i ≠ j) : upd f j d i = f i := by simp [upd, h]
theorem upd_digs {f : Nat → Int} (h : digs f) {j : Nat} {d : Int} (h0 : 0 ≤ d) (h1 : d < 1000000000) : digs (upd f j d) := by
  intro i
  unfold upd
  split
  · exact ⟨h0, h1⟩
  · exact h i
theorem wsum_congr {f g : Nat → Int} : ∀ {n : Nat}, (∀ i, i < n → f i = g i) → wsum f n = wsum g n
  | 0, _ => rfl
  | n + 1, h => by rw [wsum, wsum, wsum_congr fun i hi => h i (by omega), h n (by omega)]
theorem wsum_upd (f : Nat → Int) (j : Nat) (d : Int) : ∀ n, j < n → wsum (upd f j d) n = wsum f n + (d - f j) * 1000000000 ^ j
  | 0, h => by omega
  | n + 1, h => by
    rcases Nat.lt_or_ge j n with c | c
    · rw [wsum, wsum, wsum_upd f j d n c, upd_ne f d (by omega)]
      grind
    · have e : j = n := by omega
      subst e
      rw [wsum, wsum, upd_same, wsum_congr (f := upd f j d) (g := f) (n := j) fun i hi => upd_ne f d (by omega)]
      grind
theorem pow_pos9 (n : Nat) : (0 : Int) < 1000000000 ^ n := Int.pow_pos (by omega)
theorem wsum_bd {f : Nat → Int} (h : digs f) : ∀ n, 0 ≤ wsum f n ∧ wsum f n < 1000000000 ^ n
  | 0 => by simp [wsum]
  | n + 1 => by
    obtain ⟨h1, h2⟩ := wsum_bd h n
    obtain ⟨h3, h4⟩ := h n
    have hp := pow_pos9 n
    have e : (1000000000 : Int) ^ (n + 1) = 1000000000 ^ n * 1000000000 := Int.pow_succ _ _
    rw [wsum, e]
    generalize (1000000000 : Int) ^ n = P at *
    have g1 : 0 ≤ f n * P := Int.mul_nonneg h3 (by omega)
    have g2 : f n * P ≤ 999999999 * P := Int.mul_le_mul_of_nonneg_right (by omega) (by omega)
    constructor <;> omega
/-- the greater digit decides -/
theorem wsum_lt {f g : Nat → Int} (hf : digs f) (hg : digs g) {k : Nat} : ∀ n, k < n → f k < g k → (∀ i, k < i → i < n → f i = g i) → wsum f n < wsum g n
  | 0, h, _, _ => by omega
  | n + 1, h, hk, he => by
    rcases Nat.lt_or_ge k n with c | c
    · have ih := wsum_lt hf hg n c hk fun i h1 h2 => he i h1 (by omega)
      rw [wsum, wsum, he n c (by omega)]
      omega
    · have e : k = n := by omega
      subst e
      obtain ⟨h1, h2⟩ := wsum_bd hf k
      obtain ⟨h3, h4⟩ := wsum_bd hg k
      have hp := pow_pos9 k
      rw [wsum, wsum]
      generalize (1000000000 : Int) ^ k = P at *
      have g1 : (f k + 1) * P ≤ g k * P := Int.mul_le_mul_of_nonneg_right (by omega) (by omega)
      rw [Int.add_mul, Int.one_mul] at g1
      omega
theorem wsum_more {f : Nat → Int} {n : Nat} (h0 : ∀ i, n ≤ i → f i = 0) : ∀ m, n ≤ m → wsum f m = wsum f n
  | 0, h => by rw [show n = 0 by omega]
  | m + 1, h => by
    rcases Nat.lt_or_ge m n with c | c
    · rw [show n = m + 1 by omega]
    · rw [wsum, h0 m c, wsum_more h0 m c]; omega
def cmpI (a b : Int) : Int := if a < b then -1 else if b < a then 1 else 0
/-- one step of the school's product: the digit at i + k and what is carried -/
theorem times_step {h : Nat → Int} {N i k : Nat} {a b more V G : Int} (hj : i + k < N) (hv : wsum h N + more * 1000000000 ^ (i + k) = V + a * 1000000000 ^ i * G) :
    wsum (upd h (i + k) ((h (i + k) + a * b + more) % 1000000000)) N + (h (i + k) + a * b + more) / 1000000000 * 1000000000 ^ (i + (k + 1)) = V + a * 1000000000 ^ i * (G + b * 1000000000 ^ k) := by
  rw [wsum_upd _ _ _ _ hj]
  have e : (1000000000 : Int) ^ (i + (k + 1)) = 1000000000 ^ (i + k) * 1000000000 := by rw [← Nat.add_assoc]; exact Int.pow_succ _ _
  have e2 : (1000000000 : Int) ^ (i + k) = 1000000000 ^ i * 1000000000 ^ k := Int.pow_add _ _ _
  rw [e]
  have hx := Int.emod_add_mul_ediv (h (i + k) + a * b + more) 1000000000
  generalize (h (i + k) + a * b + more) % 1000000000 = r at *
  generalize (h (i + k) + a * b + more) / 1000000000 = q at *
  rw [e2] at hv ⊢
  clear e e2
  generalize (1000000000 : Int) ^ i = P at *
  generalize (1000000000 : Int) ^ k = Q at *
  generalize h (i + k) = z at *
  generalize wsum h N = s at *
  have e4 : r = z + a * b + more - 1000000000 * q := by omega
  subst e4
  have e5 : s = V + a * P * G - more * (P * Q) := by omega
  subst e5
  grind
theorem digit_bd {a b z more : Int} (a0 : 0 ≤ a) (a1 : a < 1000000000) (b0 : 0 ≤ b) (b1 : b < 1000000000) (z0 : 0 ≤ z) (z1 : z < 1000000000) (m0 : 0 ≤ more) (m1 : more < 1000000000) :
    0 ≤ a * b ∧ a * b ≤ 999999998000000001 ∧ 0 ≤ (z + a * b + more) / 1000000000 ∧ (z + a * b + more) / 1000000000 < 1000000000 := by
  have g0 := Int.mul_nonneg a0 b0
  have g1 : a * b ≤ 999999999 * 999999999 := Int.mul_le_mul (by omega) (by omega) b0 (by omega)
  refine ⟨g0, by omega, by omega, by omega⟩
/-- twice the vertex' number, by the unit -/
def topJ (S W : Int) : Int := (S / W + 1) / 2
theorem topJ_iff {S W : Int} (hW : 0 < W) (m : Int) : (2 * m - 1) * W ≤ S ↔ m ≤ topJ S W := by
  unfold topJ
  rw [← Int.le_ediv_iff_mul_le hW]
  omega
theorem topJ_pos {S W : Int} (hW : 0 < W) (hS : 0 ≤ S) : 0 ≤ topJ S W := by
  rw [← topJ_iff hW]; omega
theorem topJ_neg {S W : Int} (hW : 0 < W) (hS : S ≤ 0) : topJ S W ≤ 0 := by
  have h1 : ¬ ((2 * 1 - 1) * W ≤ S) := by omega
  rw [topJ_iff hW] at h1
  omega
theorem count_strict {T W : Int} (hW : 0 < W) (k : Int) : T < (2 * k + 1) * W ↔ topJ T W ≤ k := by
  have h := topJ_iff (S := T) hW (k + 1)
  rw [show 2 * (k + 1) - 1 = 2 * k + 1 by omega] at h
  omega
theorem count_weak {T W : Int} (hW : 0 < W) (k : Int) : T ≤ (2 * k + 1) * W ↔ -topJ (-T) W ≤ k := by
  have h := topJ_iff (S := -T) hW (-k)
  rw [show (2 * -k - 1) * W = -((2 * k + 1) * W) by grind] at h
  omega
end Go.Proofs.Ytdneffnnpjgnbaa
