/- Windows of both sides are the same lists; no program in sight. -/
import Derived.Test.YtdneffnnpjgnbabMadePlain
import Derived.Test.YtdneffnnpjgnbabWindows
namespace Go.Proofs.Ytdneffnnpjgnbab

theorem vW_of {xs : List (Int × Int)} (h : windowsB xs = true) : vW xs := fun p hp => by
  obtain ⟨k, hk⟩ := List.mem_iff_getElem?.1 hp
  have := windowsB_get h hk
  omega
theorem vW_append {xs ys : List (Int × Int)} (hx : vW xs) (hy : vW ys) : vW (xs ++ ys) := fun p hp => (List.mem_append.1 hp).elim (hx p) (hy p)
theorem rule1 {xs ys : List (Int × Int)} {t : Int} : ruleAt 1 xs ys t = true ↔ inW xs t ∨ inW ys t := by
  unfold ruleAt ruleB
  rw [if_pos rfl, Bool.or_eq_true, inAt_iff, inAt_iff]
theorem rule2 {xs ys : List (Int × Int)} {t : Int} : ruleAt 2 xs ys t = true ↔ inW xs t ∧ inW ys t := by
  unfold ruleAt ruleB
  rw [if_neg (by decide), if_pos rfl, Bool.and_eq_true, inAt_iff, inAt_iff]
theorem rule3 {xs ys : List (Int × Int)} {t : Int} : ruleAt 3 xs ys t = true ↔ inW xs t ∧ ¬ inW ys t := by
  unfold ruleAt ruleB
  rw [if_neg (by decide), if_neg (by decide), Bool.and_eq_true, inAt_iff, Bool.not_eq_true', ← inAt_iff (xs := ys), Bool.not_eq_true]
theorem union_eq {xs ys : List (Int × Int)} (hx : vW xs) (hy : vW ys) : longL' (xs ++ ys) = madeL 1 xs ys := by
  obtain ⟨h1, h2⟩ := longL_law (vW_ok (vW_append hx hy))
  obtain ⟨h3, h4⟩ := madeL_law 1 xs ys
  exact canon_one h1 h3 fun t => by rw [h2, h4, rule1, inW_append]
theorem meet_eq (xs ys : List (Int × Int)) : longL' (meetP xs ys) = madeL 2 xs ys := by
  obtain ⟨h1, h2⟩ := longL_law (meetP_ok xs ys)
  obtain ⟨h3, h4⟩ := madeL_law 2 xs ys
  exact canon_one h1 h3 fun t => by rw [h2, h4, rule2, meetP_in]
theorem without_law {xs ys : List (Int × Int)} (hx : vW xs) (hy : vW ys) : canon (withoutL xs ys) ∧ ∀ t, inW (withoutL xs ys) t ↔ inW xs t ∧ ¬ inW ys t := by
  obtain ⟨g1, g2⟩ := longL_law (vW_ok hy)
  have hv := vW_long hy
  obtain ⟨h1, h2⟩ := longL_law (meetP_ok xs (restG (longL' ys) 0))
  refine ⟨h1, fun t => ?_⟩
  unfold withoutL
  rw [h2, meetP_in, restG_in _ 0 g1 (fun p hp => ⟨(hv p hp).1, (hv p hp).2.2⟩), g2]
  constructor
  · rintro ⟨h3, _, _, h4⟩; exact ⟨h3, h4⟩
  · rintro ⟨⟨p, hp, h3, h4⟩, h5⟩
    have := hx p hp
    exact ⟨⟨p, hp, h3, h4⟩, by omega, by omega, h5⟩
theorem less_eq {xs ys : List (Int × Int)} (hx : vW xs) (hy : vW ys) : withoutL xs ys = madeL 3 xs ys := by
  obtain ⟨h1, h2⟩ := without_law hx hy
  obtain ⟨h3, h4⟩ := madeL_law 3 xs ys
  exact canon_one h1 h3 fun t => by rw [h2, h4, rule3]
theorem dark_eq {xs ys zs : List (Int × Int)} (hx : vW xs) (hy : vW ys) (hz : vW zs) : withoutL xs (ys ++ zs) = madeL 3 (madeL 3 xs ys) zs := by
  obtain ⟨h1, h2⟩ := without_law hx (vW_append hy hz)
  obtain ⟨h3, h4⟩ := madeL_law 3 (madeL 3 xs ys) zs
  obtain ⟨_, h6⟩ := madeL_law 3 xs ys
  refine canon_one h1 h3 fun t => ?_
  rw [h2, h4, rule3, h6, rule3, inW_append]
  constructor
  · rintro ⟨a, b⟩; exact ⟨⟨a, fun e => b (.inl e)⟩, fun e => b (.inr e)⟩
  · rintro ⟨⟨a, b⟩, c⟩; exact ⟨a, fun e => e.elim b c⟩
theorem vW_made {xs ys : List (Int × Int)} (r : Int) (hx : vW xs) (hy : vW ys) : vW (madeL r xs ys) := by
  obtain ⟨h1, h2⟩ := madeL_law r xs ys
  intro p hp
  have ho := h1.1 p hp
  have key : ∀ t, p.1 ≤ t → t ≤ p.2 → 0 ≤ t ∧ t ≤ 10000000 := fun t h3 h4 => by
    have hr := (h2 t).1 ⟨p, hp, h3, h4⟩
    unfold ruleAt at hr
    rcases rule_none hr with h | h
    · obtain ⟨q, hq, _, _⟩ := inAt_iff.1 h
      have := hx q hq; omega
    · obtain ⟨q, hq, _, _⟩ := inAt_iff.1 h
      have := hy q hq; omega
  have := key p.1 (Int.le_refl _) ho
  have := key p.2 ho (Int.le_refl _)
  omega
theorem madeL_len (r : Int) (xs ys : List (Int × Int)) : (madeL r xs ys).length ≤ 2 * (xs.length + ys.length) := by
  have h1 := joinL_len (madeSegs r xs ys (segs (cutsOf xs ys)))
  have h2 : (madeSegs r xs ys (segs (cutsOf xs ys))).length ≤ (segs (cutsOf xs ys)).length := List.length_filter_le _ _
  rw [segs_len] at h2
  have h3 := cutsL_len ys (cutsL xs [])
  have h4 := cutsL_len xs []
  simp only [List.length_nil] at h4
  unfold madeL
  unfold cutsOf at h1 h2 ⊢
  omega

/-! What the functions return. -/
def few (l : List (Int × Int)) : List (Int × Int) × Int := if 30 < l.length then ([], 5) else (l, 0)
def bothI (r : Int) (xs ys : List (Int × Int)) : List (Int × Int) × Int := if !windowsB xs then ([], 1) else if !windowsB ys then ([], 1) else few (madeL r xs ys)
def darkI (xs ys zs : List (Int × Int)) : List (Int × Int) × Int :=
  if !windowsB xs then ([], 1) else if !windowsB ys then ([], 1) else if !windowsB zs then ([], 1) else
    if (madeL 3 (madeL 3 xs ys) zs).length = 0 ∧ 0 < xs.length then ([], 10) else few (madeL 3 (madeL 3 xs ys) zs)
theorem few_len (l : List (Int × Int)) : (few l).1.length ≤ 30 := by
  unfold few; split
  · simp
  · dsimp only; omega
theorem bothI_len (r : Int) (xs ys : List (Int × Int)) : (bothI r xs ys).1.length ≤ 30 := by
  unfold bothI
  split
  · simp
  · split
    · simp
    · exact few_len _
theorem darkI_len (xs ys zs : List (Int × Int)) : (darkI xs ys zs).1.length ≤ 30 := by
  unfold darkI
  split
  · simp
  · split
    · simp
    · split
      · simp
      · split
        · simp
        · exact few_len _
end Go.Proofs.Ytdneffnnpjgnbab
