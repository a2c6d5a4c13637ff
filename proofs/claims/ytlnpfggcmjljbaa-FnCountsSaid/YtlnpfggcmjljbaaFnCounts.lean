/- What the law on numbers of periods leans on, in plain numbers; no program in sight. -/
import Derived.Test.YtlnpfggcmjljbaaCounts
import Derived.Test.YtlnpfggcmjljbaaPeriod
namespace Go.Proofs.Ytlnpfggcmjljbaa
open Go.RowKit

theorem any_span (p t : Int) : ∀ n : Nat, ((spanI p n).any fun x => x == t) = decide (p ≤ t ∧ t < p + n)
  | 0 => by
    have h : ¬ (p ≤ t ∧ t < p + ((0 : Nat) : Int)) := by omega
    rw [decide_eq_false h]; simp [spanI]
  | n + 1 => by
    rw [spanI_succ, List.any_append, any_span p t n, Bool.eq_iff_iff]
    simp; omega
theorem spanI_get (p : Int) {n k : Nat} {x : Int} (h : (spanI p n)[k]? = some x) : x = p + k := by
  unfold spanI at h
  rw [List.getElem?_map] at h
  simp only [Option.map_eq_some_iff] at h
  obtain ⟨i, hi, rfl⟩ := h
  obtain ⟨_, h2⟩ := List.getElem?_eq_some_iff.1 hi
  simp at h2; omega
theorem counts_good {a g l h : Int} (a1 : 0 ≤ a) (a2 : a ≤ 2550) (g1 : 1 ≤ g) (g2 : g ≤ 10240) (l1 : 60 ≤ l) (l2 : l ≤ 315) (h1 : l ≤ h) (h2 : h ≤ 374) :
    ∃ (p : Int) (n : Nat), countsI a (a + g) l h = (spanI p n, 0) ∧ 1 ≤ p ∧ p ≤ 10000000 ∧ n ≤ 200 ∧ ∀ t, (p ≤ t ∧ t < p + n) ↔ (l * t ≤ g ∧ g ≤ h * t) := by
  have hB : countsB a (a + g) l h = true := countsB_iff.2 ⟨a1, by omega, by omega, by omega, by omega, by omega, h1, by omega⟩
  obtain ⟨q1, q2⟩ := cLo_bd hB
  obtain ⟨q3, q4⟩ := cHi_bd hB
  have e1 : cHi a (a + g) l = g / l := by unfold cHi; congr 1; omega
  have e2 : cLo a (a + g) h = -(-g / h) := by unfold cLo; congr 2; omega
  have q5 : g / l ≤ 170 := by
    have : g / l < 171 := Int.ediv_lt_of_lt_mul (by omega) (by omega)
    omega
  have hg : ¬ cHi a (a + g) l - cLo a (a + g) h + 1 > 200 := by rw [e1]; omega
  refine ⟨cLo a (a + g) h, cN a (a + g) l h, by unfold countsI; rw [if_neg (by simp [hB]), if_neg hg], q1, q2, by unfold cN; omega, fun t => ?_⟩
  have k1 : (t ≤ g / l) ↔ (t * l ≤ g) := Int.le_ediv_iff_mul_le (by omega)
  have k2 : (-t ≤ -g / h) ↔ (-t * h ≤ -g) := Int.le_ediv_iff_mul_le (by omega)
  rw [Int.neg_mul] at k2
  rw [Int.mul_comm l t, Int.mul_comm h t, ← k1]
  unfold cN
  rw [e1] at q3 q4 ⊢
  rw [e2] at q1 q2 ⊢
  omega
theorem per_good {a g l : Int} (a1 : 0 ≤ a) (a2 : a ≤ 2550) (g1 : 1 ≤ g) (g2 : g ≤ 10240) (l1 : 60 ≤ l) (l2 : l ≤ 315) :
    ∃ N D : Int, perI 3 a (3 + l) (a + g) = (N, D, 0) ∧ 0 < D ∧ D ≤ 315 ∧ 0 ≤ N ∧ N ≤ 10240 ∧ N * l = g * D := by
  refine ⟨fracN g l, fracD g l, ?_, ?_⟩
  · unfold perI
    rw [minB_iff.2 ⟨by omega, by omega, a1, by omega⟩, minB_iff.2 ⟨by omega, by omega, by omega, by omega⟩, if_neg (by simp), if_neg (by omega), if_neg (by omega), show a + g - a = g by omega, show 3 + l - 3 = l by omega]
  · have hg := gcdI_pos g l (by omega)
    have hgl := gcdI_le g l (by omega)
    have d1 : gcdI g l ∣ g := Int.gcd_dvd_left g l
    have d2 : gcdI g l ∣ l := Int.gcd_dvd_right g l
    unfold fracN fracD
    rw [Int.tdiv_eq_ediv_of_nonneg (by omega)]
    obtain ⟨x, hx⟩ := d1
    obtain ⟨y, hy⟩ := d2
    generalize gcdI g l = q at *
    subst hx hy
    rw [Int.mul_ediv_cancel_left _ (by omega), Int.mul_ediv_cancel_left _ (by omega)]
    have y1 : 1 ≤ y := by
      rcases Int.lt_or_le 0 y with h | h
      · omega
      · have := Int.mul_le_mul_of_nonneg_left h (show 0 ≤ q by omega); omega
    have x1 : 1 ≤ x := by
      rcases Int.lt_or_le 0 x with h | h
      · omega
      · have := Int.mul_le_mul_of_nonneg_left h (show 0 ≤ q by omega); omega
    have y2 := Int.mul_le_mul_of_nonneg_right hg (show 0 ≤ y by omega)
    have x2 := Int.mul_le_mul_of_nonneg_right hg (show 0 ≤ x by omega)
    refine ⟨by omega, by omega, by omega, by omega, ?_⟩
    rw [Int.mul_comm q y, Int.mul_comm q x, ← Int.mul_assoc, Int.mul_assoc x q y, Int.mul_comm q y]
    rw [Int.mul_assoc]
theorem mulB {l t A B : Int} (l0 : 0 ≤ l) (l1 : l ≤ A) (t0 : 0 ≤ t) (t1 : t ≤ B) : 0 ≤ l * t ∧ l * t ≤ A * B :=
  ⟨Int.mul_nonneg l0 t0, Int.mul_le_mul l1 t1 t0 (by omega)⟩
end Go.Proofs.Ytlnpfggcmjljbaa
