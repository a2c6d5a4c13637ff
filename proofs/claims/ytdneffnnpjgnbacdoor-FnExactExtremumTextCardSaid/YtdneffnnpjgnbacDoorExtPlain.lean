/- Extrema of a light curve, in plain lists; no program in sight. -/
import Derived.Test.YtdneffnnpjgnbacDoorCurve
namespace Go.Proofs.YtdneffnnpjgnbacDoor
open Go.RowKit

theorem curve_tail {prev : Option (Int × Int)} {x : Int × Int} {r : List (Int × Int)} (h : pairOk timeB magB prev (x :: r) = true) : timeB x.1 = true ∧ magB x.2 = true ∧ pairOk timeB magB (some x) r = true := by
  obtain ⟨a, b⟩ := x
  simp [pairOk] at h
  exact ⟨h.1.1.1, h.1.1.2, h.2⟩
theorem curve_each : ∀ {xs : List (Int × Int)} {prev : Option (Int × Int)}, pairOk timeB magB prev xs = true → ∀ {k : Nat} {x : Int × Int}, xs[k]? = some x → timeB x.1 = true ∧ magB x.2 = true
  | [], _, _, _, _, h => by simp at h
  | y :: r, _, hp, 0, x, h => by simp at h; subst h; exact ⟨(curve_tail hp).1, (curve_tail hp).2.1⟩
  | y :: r, _, hp, k + 1, x, h => curve_each (curve_tail hp).2.2 (by simpa using h)
theorem curve_get {xs : List (Int × Int)} (h : curveB xs = true) {k : Nat} {x : Int × Int} (hx : xs[k]? = some x) : 0 ≤ x.1 ∧ x.1 ≤ 10000000 ∧ -2000 ≤ x.2 ∧ x.2 ≤ 20000 := by
  simp [curveB] at h
  obtain ⟨h1, h2⟩ := curve_each h.2 hx
  have := timeB_iff.1 h1; have := magB_iff.1 h2; omega
theorem curve_len {xs : List (Int × Int)} (h : curveB xs = true) : xs.length ≤ 100 := by simp [curveB] at h; exact h.1
theorem curve_rises : ∀ (xs : List (Int × Int)) (prev : Option (Int × Int)), pairOk timeB magB prev xs = true →
    (∀ (p : Int × Int), prev = some p → ∀ (k : Nat) (x : Int × Int), xs[k]? = some x → p.1 < x.1) ∧ (∀ (i j : Nat) (x y : Int × Int), i < j → xs[i]? = some x → xs[j]? = some y → x.1 < y.1)
  | [], _, _ => ⟨fun _ _ _ _ h => by simp at h, fun _ _ _ _ _ h => by simp at h⟩
  | (a, b) :: r, prev, h => by
    obtain ⟨_, _, ht⟩ := curve_tail h
    obtain ⟨i1, i2⟩ := curve_rises r (some (a, b)) ht
    refine ⟨fun p hp k x hk => ?_, fun i j x y hij hx hy => ?_⟩
    · subst hp
      simp [pairOk] at h
      have hab : p.1 < a := h.1.2
      match k, hk with
      | 0, hk => simp at hk; subst hk; exact hab
      | k + 1, hk =>
        have := i1 _ rfl k x (by simpa using hk)
        dsimp only at this; omega
    · match i, j, hij, hx, hy with
      | 0, j + 1, _, hx, hy => simp at hx; subst hx; exact i1 _ rfl j y (by simpa using hy)
      | i + 1, j + 1, hij, hx, hy => exact i2 i j x y (by omega) (by simpa using hx) (by simpa using hy)
theorem curve_lt {xs : List (Int × Int)} (h : curveB xs = true) {i j : Nat} {x y : Int × Int} (hij : i < j) (hx : xs[i]? = some x) (hy : xs[j]? = some y) : x.1 < y.1 := by
  simp [curveB] at h
  exact (curve_rises xs none h.2).2 i j x y hij hx hy

/-- the magnitude at a place -/
def magAt (xs : List (Int × Int)) (k : Nat) : Int := (xs.getD k (0, 0)).2
theorem magAt_of {xs : List (Int × Int)} {k : Nat} {x y : Int} (h : xs[k]? = some (x, y)) : magAt xs k = y := by simp [magAt, List.getD, h]
/-- one step to both sides; t is 1 for a maximum of brightness, -1 for a minimum -/
def extP (t : Int) (g : Nat → Int) (i j : Nat) : Bool := decide (0 < t * (g (i - (j + 1)) - g i)) && decide (0 ≤ t * (g (i + (j + 1)) - g i))
def extB (t : Int) (g : Nat → Int) (i s : Nat) : Bool := (List.range s).all (extP t g i)
def isExtI (t : Int) (xs : List (Int × Int)) (i s : Nat) : Bool := decide (s ≤ i) && decide (i + s < xs.length) && extB t (magAt xs) i s
theorem all_range_succ (p : Nat → Bool) (c : Nat) : (List.range (c + 1)).all p = ((List.range c).all p && p c) := by
  rw [List.range_succ, List.all_append]; simp
theorem all_range_true {p : Nat → Bool} {c : Nat} : (List.range c).all p = true ↔ ∀ j, j < c → p j = true := by
  rw [List.all_eq_true]
  exact ⟨fun h j hj => h j (List.mem_range.2 hj), fun h x hx => h x (List.mem_range.1 hx)⟩
theorem all_range_bad {p : Nat → Bool} {c j : Nat} (hj : j < c) (h : p j = false) : (List.range c).all p = false := by
  rw [List.all_eq_false]; exact ⟨j, List.mem_range.2 hj, by simp [h]⟩
def kindI (xs : List (Int × Int)) (i s : Nat) : Int := if isExtI 1 xs i s then 1 else if isExtI (-1) xs i s then 2 else 0
/-- what the reference asks at place k -/
def okBright (g : Nat → Int) (i k : Nat) : Bool := if k = i then true else if k < i then decide (g i < g k) else decide (g i ≤ g k)
def okFaint (g : Nat → Int) (i k : Nat) : Bool := if k = i then true else if k < i then decide (g k < g i) else decide (g k ≤ g i)
theorem bright_eq (g : Nat → Int) (i s : Nat) (hs : s ≤ i) : (List.range (2 * s + 1)).all (fun j => okBright g i (i - s + j)) = extB 1 g i s := by
  rw [Bool.eq_iff_iff, all_range_true]
  unfold extB
  rw [all_range_true]
  constructor
  · intro h j hj
    have h1 := h (s - (j + 1)) (by omega)
    have h2 := h (s + (j + 1)) (by omega)
    rw [show i - s + (s - (j + 1)) = i - (j + 1) by omega] at h1
    rw [show i - s + (s + (j + 1)) = i + (j + 1) by omega] at h2
    unfold okBright at h1 h2
    rw [if_neg (by omega), if_pos (by omega)] at h1
    rw [if_neg (by omega), if_neg (by omega)] at h2
    simp only [decide_eq_true_eq] at h1 h2
    simp only [extP, Bool.and_eq_true, decide_eq_true_eq]
    omega
  · intro h j hj
    unfold okBright
    split
    · rfl
    split
    · have := h (i - (i - s + j) - 1) (by omega)
      simp only [extP, Bool.and_eq_true, decide_eq_true_eq] at this
      rw [show i - (i - (i - s + j) - 1 + 1) = i - s + j by omega] at this
      simp only [decide_eq_true_eq]; omega
    · have := h (i - s + j - i - 1) (by omega)
      simp only [extP, Bool.and_eq_true, decide_eq_true_eq] at this
      rw [show i + (i - s + j - i - 1 + 1) = i - s + j by omega] at this
      simp only [decide_eq_true_eq]; omega
theorem faint_eq (g : Nat → Int) (i s : Nat) (hs : s ≤ i) : (List.range (2 * s + 1)).all (fun j => okFaint g i (i - s + j)) = extB (-1) g i s := by
  rw [Bool.eq_iff_iff, all_range_true]
  unfold extB
  rw [all_range_true]
  constructor
  · intro h j hj
    have h1 := h (s - (j + 1)) (by omega)
    have h2 := h (s + (j + 1)) (by omega)
    rw [show i - s + (s - (j + 1)) = i - (j + 1) by omega] at h1
    rw [show i - s + (s + (j + 1)) = i + (j + 1) by omega] at h2
    unfold okFaint at h1 h2
    rw [if_neg (by omega), if_pos (by omega)] at h1
    rw [if_neg (by omega), if_neg (by omega)] at h2
    simp only [decide_eq_true_eq] at h1 h2
    simp only [extP, Bool.and_eq_true, decide_eq_true_eq]
    omega
  · intro h j hj
    unfold okFaint
    split
    · rfl
    split
    · have := h (i - (i - s + j) - 1) (by omega)
      simp only [extP, Bool.and_eq_true, decide_eq_true_eq] at this
      rw [show i - (i - (i - s + j) - 1 + 1) = i - s + j by omega] at this
      simp only [decide_eq_true_eq]; omega
    · have := h (i - s + j - i - 1) (by omega)
      simp only [extP, Bool.and_eq_true, decide_eq_true_eq] at this
      rw [show i + (i - s + j - i - 1 + 1) = i - s + j by omega] at this
      simp only [decide_eq_true_eq]; omega
/-- with one neighbour at least a point is not both -/
theorem not_both {g : Nat → Int} {i s : Nat} (hs : 1 ≤ s) (h1 : extB 1 g i s = true) : extB (-1) g i s = false := by
  unfold extB at *
  have := all_range_true.1 h1 0 (by omega)
  refine all_range_bad (j := 0) (by omega) ?_
  simp only [extP, Bool.and_eq_true, decide_eq_true_eq] at this
  simp only [extP, Bool.and_eq_false_iff, decide_eq_false_iff_not]
  omega
def extL (xs : List (Int × Int)) (s : Nat) : Nat → List (Int × Int)
  | 0 => []
  | c + 1 => if kindI xs c s = 0 then extL xs s c else extL xs s c ++ [(kindI xs c s, (c : Int))]
theorem extL_len (xs : List (Int × Int)) (s : Nat) : ∀ c, (extL xs s c).length ≤ c
  | 0 => by simp [extL]
  | c + 1 => by
    have := extL_len xs s c
    rw [extL]; split
    · omega
    · simp; omega
theorem extL_none {xs : List (Int × Int)} {s c : Nat} (h : kindI xs c s = 0) : extL xs s (c + 1) = extL xs s c := by rw [extL, if_pos h]
theorem extL_some {xs : List (Int × Int)} {s c : Nat} (h : kindI xs c s ≠ 0) : extL xs s (c + 1) = extL xs s c ++ [(kindI xs c s, (c : Int))] := by rw [extL, if_neg h]
theorem extL_mem {xs : List (Int × Int)} {s : Nat} : ∀ {c : Nat} {x : Int × Int}, x ∈ extL xs s c → (x.1 = 1 ∨ x.1 = 2) ∧ 0 ≤ x.2 ∧ x.2 < c
  | 0, x, h => by simp [extL] at h
  | c + 1, x, h => by
    rw [extL] at h
    split at h
    · have := extL_mem h; omega
    · rename_i h0
      rcases List.mem_append.1 h with h | h
      · have := extL_mem h; omega
      · simp at h; subst h
        refine ⟨?_, by dsimp only; omega, by dsimp only; omega⟩
        have : kindI xs c s = 1 ∨ kindI xs c s = 2 ∨ kindI xs c s = 0 := by unfold kindI; split; simp; split <;> simp
        simp only; omega
/-- the indices rise -/
theorem extL_rises {xs : List (Int × Int)} {s : Nat} : ∀ {c : Nat} {i j : Nat} {x y : Int × Int}, i < j → (extL xs s c)[i]? = some x → (extL xs s c)[j]? = some y → x.2 < y.2
  | 0, i, j, x, y, _, h, _ => by simp [extL] at h
  | c + 1, i, j, x, y, hij, hx, hy => by
    rw [extL] at hx hy
    split at hx
    · rw [if_pos ‹_›] at hy; exact extL_rises hij hx hy
    · rw [if_neg ‹_›] at hy
      have hj : j < (extL xs s c).length + 1 := by have := (List.getElem?_eq_some_iff.1 hy).1; simpa using this
      have hi : i < (extL xs s c).length := by omega
      rw [List.getElem?_append_left hi] at hx
      rcases Nat.lt_or_ge j (extL xs s c).length with h | h
      · rw [List.getElem?_append_left h] at hy; exact extL_rises hij hx hy
      · have e : j = (extL xs s c).length := by omega
        subst e
        rw [List.getElem?_append_right (Nat.le_refl _), Nat.sub_self] at hy
        simp at hy; subst hy
        exact (extL_mem (List.mem_of_getElem? hx)).2.2
def extI (xs : List (Int × Int)) (s : Int) : List (Int × Int) × Int := if !curveB xs then ([], 1) else if !inB s 1 10 then ([], 2) else (extL xs s.toNat xs.length, 0)
theorem extI_len (xs : List (Int × Int)) (s : Int) : (extI xs s).1.length ≤ xs.length := by
  unfold extI; split <;> (try split) <;> simp [extL_len]
end Go.Proofs.YtdneffnnpjgnbacDoor
