/- Extrema that differ enough from their neighbours, in plain lists; no program in sight. -/
import Derived.Test.YtdneffnnpjgnbacDoorExtPlain
namespace Go.Proofs.YtdneffnnpjgnbacDoor
open Go.RowKit

/-- kinds and rising indices of a curve with n points -/
def extOk (n : Int) (prev : Option (Int × Int)) : List (Int × Int) → Bool
  | [] => true
  | (k, i) :: r => inB k 1 2 && inB i 0 (n - 1) && (match prev with | none => true | some p => decide (p.2 < i)) && extOk n (some (k, i)) r
theorem extOk_tail {n : Int} {prev : Option (Int × Int)} {x : Int × Int} {r : List (Int × Int)} (h : extOk n prev (x :: r) = true) : inB x.1 1 2 = true ∧ inB x.2 0 (n - 1) = true ∧ extOk n (some x) r = true := by
  obtain ⟨a, b⟩ := x
  simp [extOk] at h
  exact ⟨h.1.1.1, h.1.1.2, h.2⟩
theorem extOk_get {n : Int} : ∀ {xs : List (Int × Int)} {prev : Option (Int × Int)}, extOk n prev xs = true → ∀ {k : Nat} {x : Int × Int}, xs[k]? = some x → 1 ≤ x.1 ∧ x.1 ≤ 2 ∧ 0 ≤ x.2 ∧ x.2 < n
  | [], _, _, _, _, h => by simp at h
  | y :: r, _, hp, 0, x, h => by
    simp at h; subst h
    obtain ⟨h1, h2, _⟩ := extOk_tail hp
    have := inB_iff.1 h1; have := inB_iff.1 h2; omega
  | y :: r, _, hp, k + 1, x, h => extOk_get (extOk_tail hp).2.2 (by simpa using h)
def prevE (xs : List (Int × Int)) : Nat → Option (Int × Int)
  | 0 => none
  | k + 1 => xs[k]?
theorem prevE_succ {xs : List (Int × Int)} {k : Nat} {x : Int × Int} (h : xs[k]? = some x) : prevE xs (k + 1) = some x := h
theorem prevE_pos {xs : List (Int × Int)} {k : Nat} {x : Int × Int} (h0 : 0 < k) (h : xs[k - 1]? = some x) : prevE xs k = some x := by obtain ⟨j, rfl⟩ : ∃ j, k = j + 1 := ⟨k - 1, by omega⟩; exact h
/-- the list of valid extrema has at most as many as the curve has points -/
theorem extOk_len {n : Int} : ∀ {xs : List (Int × Int)} {prev : Option (Int × Int)}, extOk n prev xs = true → ∀ p : Int, (∀ q, prev = some q → p ≤ q.2) → (prev = none → p = -1) → -1 ≤ p → p ≤ n - 1 → (xs.length : Int) ≤ n - 1 - p
  | [], _, _, p, _, _, _, h => by simp; omega
  | (k, i) :: r, prev, h, p, hq, hn, h1, h2 => by
    have hh := h
    simp [extOk] at h
    obtain ⟨_, hi, ht⟩ := extOk_tail hh
    have hi2 := inB_iff.1 hi
    simp only at hi2
    have hp : p < i := by
      cases prev with
      | none => have := hn rfl; omega
      | some q => have := hq q rfl; have := h.1.2; simp at this; omega
    have ih := extOk_len ht i (fun q e => by cases e; exact Int.le_refl _) (fun e => by cases e) (by omega) (by omega)
    simp only [List.length_cons, Int.natCast_add, Int.natCast_one]
    omega
/-- does the extremum c differ enough from the one at k -/
def nbB (xs es : List (Int × Int)) (by_ : Int) (c k : Nat) : Bool :=
  decide (by_ ≤ (if (es.getD c (0, 0)).1 = 2 then -(magAt xs (es.getD k (0, 0)).2.toNat - magAt xs (es.getD c (0, 0)).2.toNat) else magAt xs (es.getD k (0, 0)).2.toNat - magAt xs (es.getD c (0, 0)).2.toNat))
def deepOk (xs es : List (Int × Int)) (by_ : Int) (c : Nat) : Bool := (decide (c = 0) || nbB xs es by_ c (c - 1)) && (decide (es.length ≤ c + 1) || nbB xs es by_ c (c + 1))
def deepL (xs es : List (Int × Int)) (by_ : Int) : Nat → List (Int × Int)
  | 0 => []
  | c + 1 => deepL xs es by_ c ++ if deepOk xs es by_ c then [es.getD c (0, 0)] else []
theorem deepL_len (xs es : List (Int × Int)) (by_ : Int) : ∀ c, (deepL xs es by_ c).length ≤ c
  | 0 => by simp [deepL]
  | c + 1 => by
    have := deepL_len xs es by_ c
    rw [deepL, List.length_append]; split <;> simp <;> omega
def deepI (xs es : List (Int × Int)) (by_ : Int) : List (Int × Int) × Int :=
  if !curveB xs then ([], 1) else if !extOk xs.length none es then ([], 2) else if !inB by_ 0 20000 then ([], 2) else (deepL xs es by_ es.length, 0)
theorem deepI_len (xs es : List (Int × Int)) (by_ : Int) : (deepI xs es by_).1.length ≤ es.length := by
  unfold deepI; split <;> (try split) <;> (try split) <;> simp [deepL_len]
end Go.Proofs.YtdneffnnpjgnbacDoor
