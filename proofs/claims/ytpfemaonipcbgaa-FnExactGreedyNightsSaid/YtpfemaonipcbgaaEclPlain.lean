/- Eclipses that lie in a window as a whole, and quotients rounded up, in plain lists; no program in sight. -/
import Derived.Test.YtpfemaonipcbgaaWindows
import Derived.Test.YtpfemaonipcbgaaEph
import Derived.Test.YtpfemaonipcbgaaMod0
namespace Go.Proofs.Ytpfemaonipcbgaa
open Go.RowKit

/-- a quotient, rounded up -/
def ceilI (a b : Int) : Int := -((-a) / b)
theorem ceilI_le {a b : Int} (x : Int) (hb : 0 < b) : ceilI a b ≤ x ↔ a ≤ x * b := by
  unfold ceilI
  have h := Int.le_ediv_iff_mul_le (c := b) (a := -x) (b := -a) hb
  rw [Int.neg_mul] at h
  constructor
  · intro k; have := h.1 (by omega); omega
  · intro k; have := h.2 (by omega); omega
theorem le_floor {a b : Int} (x : Int) (hb : 0 < b) : x ≤ a / b ↔ x * b ≤ a := Int.le_ediv_iff_mul_le hb
theorem ceilI_bd {a b : Int} (hb : 0 < b) (l h : Int) (h0 : l ≤ 0) (h1 : 0 ≤ h) (h2 : l ≤ a) (h3 : a ≤ h) : l ≤ ceilI a b ∧ ceilI a b ≤ h := by
  constructor
  · by_cases k : l ≤ ceilI a b
    · exact k
    · have h4 := (ceilI_le (a := a) (l - 1) hb).1 (by omega)
      have h5 : (l - 1) * b ≤ (l - 1) * 1 := Int.mul_le_mul_of_nonpos_left (by omega) (by omega)
      omega
  · rw [ceilI_le h hb]
    have h5 : h * 1 ≤ h * b := Int.mul_le_mul_of_nonneg_left (by omega) h1
    omega
theorem floor_bd {a b : Int} (hb : 0 < b) (l h : Int) (h0 : l ≤ 0) (h1 : 0 ≤ h) (h2 : l ≤ a) (h3 : a ≤ h) : l ≤ a / b ∧ a / b ≤ h := by
  constructor
  · rw [le_floor l hb]
    have h5 : l * b ≤ l * 1 := Int.mul_le_mul_of_nonpos_left h0 (by omega)
    omega
  · by_cases k : a / b ≤ h
    · exact k
    · have h4 := (le_floor (a := a) (h + 1) hb).1 (by omega)
      have h5 : (h + 1) * 1 ≤ (h + 1) * b := Int.mul_le_mul_of_nonneg_left (by omega) (by omega)
      omega
/-- the first extremum from a time on -/
def nextI (e p t : Int) : Int := if (t - e) % p = 0 then t else t + p - (t - e) % p
theorem nextI_eq {e p t : Int} (hp : 0 < p) : nextI e p t = e + ceilI (t - e) p * p := by
  have h0 := Int.emod_nonneg (t - e) (show p ≠ 0 by omega)
  have h1 := Int.emod_lt_of_pos (t - e) hp
  have h2 := Int.emod_add_mul_ediv (t - e) p
  rw [Int.mul_comm] at h2
  unfold nextI
  split
  · have hc : ceilI (t - e) p = (t - e) / p := by
      have a1 := (ceilI_le (a := t - e) ((t - e) / p) hp).2 (by omega)
      by_cases k : ceilI (t - e) p ≤ (t - e) / p - 1
      · have a2 := (ceilI_le (a := t - e) ((t - e) / p - 1) hp).1 k
        rw [Int.sub_mul] at a2; omega
      · omega
    rw [hc]; omega
  · have hc : ceilI (t - e) p = (t - e) / p + 1 := by
      have a1 := (ceilI_le (a := t - e) ((t - e) / p + 1) hp).2 (by rw [Int.add_mul]; omega)
      by_cases k : ceilI (t - e) p ≤ (t - e) / p
      · have a2 := (ceilI_le (a := t - e) ((t - e) / p) hp).1 k
        omega
      · omega
    rw [hc, Int.add_mul]; omega
theorem cycle_at {e p c : Int} (hp : 0 < p) : (e + c * p - e) / p = c := by
  rw [show e + c * p - e = c * p by omega]; exact Int.mul_ediv_cancel c (by omega)
/-- the numbers from c on up to l -/
def upTo (c l : Int) : List Int := (List.range (l - c + 1).toNat).map fun (i : Nat) => c + (i : Int)
theorem upTo_nil {c l : Int} (h : l < c) : upTo c l = [] := by unfold upTo; rw [show (l - c + 1).toNat = 0 by omega]; rfl
theorem upTo_len (c l : Int) : (upTo c l).length = (l - c + 1).toNat := by simp [upTo]
theorem upTo_take {c l : Int} {j : Nat} (h : c + (j : Int) ≤ l) : (upTo c l).take (j + 1) = (upTo c l).take j ++ [c + (j : Int)] := by
  refine take_snoc_of ?_
  have : j < (l - c + 1).toNat := by omega
  simp [upTo, this]
theorem upTo_full {c l : Int} {j : Nat} (h : l < c + (j : Int)) : (upTo c l).take j = upTo c l := List.take_of_length_le (by rw [upTo_len]; omega)
/-- the cycles of the eclipses that lie in a window -/
def cyLo (h e p : Int) (w : Int × Int) : Int := ceilI (w.1 + h - e) p
def cyHi (h e p : Int) (w : Int × Int) : Int := (w.2 - h - e) / p
def cyL (h e p : Int) (w : Int × Int) : List Int := upTo (cyLo h e p w) (cyHi h e p w)
def cyAll (h e p : Int) (ws : List (Int × Int)) : List Int := ws.flatMap (cyL h e p)
theorem cyAll_take {h e p : Int} {ws : List (Int × Int)} {k : Nat} {x : Int × Int} (hx : ws[k]? = some x) : cyAll h e p (ws.take (k + 1)) = cyAll h e p (ws.take k) ++ cyL h e p x := by
  rw [take_snoc_of hx]; simp [cyAll]
theorem cyAll_take_le (h e p : Int) (ws : List (Int × Int)) (k : Nat) : (cyAll h e p (ws.take k)).length ≤ (cyAll h e p ws).length := by
  have : cyAll h e p ws = cyAll h e p (ws.take k) ++ cyAll h e p (ws.drop k) := by unfold cyAll; rw [← List.flatMap_append, List.take_append_drop]
  rw [this, List.length_append]; omega
theorem cy_empty {h e p : Int} {w : Int × Int} (hp : 0 < p) (k : w.2 - h < w.1 + h) : cyL h e p w = [] := by
  refine upTo_nil ?_
  unfold cyLo cyHi
  by_cases c : (w.2 - h - e) / p < ceilI (w.1 + h - e) p
  · exact c
  · have a1 := (ceilI_le (a := w.1 + h - e) ((w.2 - h - e) / p) hp).1 (by omega)
    have a2 := (le_floor (a := w.2 - h - e) ((w.2 - h - e) / p) hp).1 (Int.le_refl _)
    omega
/-- how many extrema lie in a window -/
def cntI (e p a b : Int) : Int := if b < nextI e p a then 0 else (b - nextI e p a) / p + 1
theorem cnt_eq {e p a b : Int} (hp : 0 < p) (hab : a ≤ b) : cntI e p a b = (upTo (ceilI (a - e) p) ((b - e) / p)).length := by
  unfold cntI
  rw [nextI_eq hp, upTo_len]
  have a1 := ceilI_le (a := a - e) ((b - e) / p + 1) hp
  have a2 := (le_floor (a := b - e) ((b - e) / p) hp).1 (Int.le_refl _)
  have a3 : ¬ (b - e) / p + 1 ≤ (b - e) / p := by omega
  rw [le_floor _ hp] at a3
  have a4 := a1.2 (by omega)
  by_cases c : b < e + ceilI (a - e) p * p
  · rw [if_pos c]
    have : ¬ ceilI (a - e) p ≤ (b - e) / p := by rw [le_floor _ hp]; omega
    omega
  · rw [if_neg c]
    have h1 : ceilI (a - e) p ≤ (b - e) / p := by rw [le_floor _ hp]; omega
    have h2 : (b - (e + ceilI (a - e) p * p)) / p = (b - e) / p - ceilI (a - e) p := by
      rw [show b - (e + ceilI (a - e) p * p) = (b - e) + (-ceilI (a - e) p) * p by rw [Int.neg_mul]; omega, Int.add_mul_ediv_right _ _ (by omega)]; omega
    rw [h2]; omega
def inCnt (h e p : Int) (w : Int × Int) : Int := if w.1 + h ≤ w.2 - h then cntI e p (w.1 + h) (w.2 - h) else 0
theorem inCnt_eq {h e p : Int} {w : Int × Int} (hp : 0 < p) : inCnt h e p w = (cyL h e p w).length := by
  unfold inCnt
  split
  · rw [cnt_eq hp (by assumption)]; rfl
  · rw [cy_empty hp (by omega)]; rfl
/-- the code of an ephemeris, windows and whether the other numbers are in their ranges -/
def fitsI (e p : Int) (xs : List (Int × Int)) (r : Bool) : Int := if !(ephB e p && windowsB xs) then 1 else if r then 0 else 2
def wholeI (a b c e p : Int) (xs : List (Int × Int)) : List Int × Int :=
  if !modelB a b c then ([], 1) else if !(ephB e p && windowsB xs) then ([], 1) else if 200 < (cyAll b e p xs).length then ([], 5) else (cyAll b e p xs, 0)
theorem wholeI_len (a b c e p : Int) (xs : List (Int × Int)) : (wholeI a b c e p xs).1.length ≤ 200 := by
  unfold wholeI; repeat (split; simp)
  simp only; omega
end Go.Proofs.Ytpfemaonipcbgaa
