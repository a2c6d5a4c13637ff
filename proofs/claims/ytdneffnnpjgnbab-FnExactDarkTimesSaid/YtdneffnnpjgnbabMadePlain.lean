/- The reference's way to windows: cuts, segments between them, those that satisfy a rule, joined; no program in sight. -/
import Derived.Test.YtdneffnnpjgnbabWithout
import Derived.Test.YtdneffnnpjgnbabPutS
namespace Go.Proofs.Ytdneffnnpjgnbab

def ascI (cs : List Int) : Prop := cs.Pairwise (· < ·)
theorem putL_mem {n z : Int} : ∀ {xs : List Int}, z ∈ putL xs n ↔ z = n ∨ z ∈ xs
  | [] => by simp [putL]
  | x :: r => by
    unfold putL
    split
    · split
      · simp
      · have : n = x := by omega
        subst this; simp
    · have ih := putL_mem (n := n) (z := z) (xs := r)
      rw [List.mem_cons, ih, List.mem_cons]
      constructor
      · rintro (h | h | h)
        · exact .inr (.inl h)
        · exact .inl h
        · exact .inr (.inr h)
      · rintro (h | h | h)
        · exact .inr (.inl h)
        · exact .inl h
        · exact .inr (.inr h)
theorem putL_asc {n : Int} : ∀ {xs : List Int}, ascI xs → ascI (putL xs n)
  | [], _ => List.pairwise_singleton _ _
  | x :: r, h => by
    have hx := List.pairwise_cons.1 h
    unfold putL
    split
    · split
      · rename_i h1 h2
        refine List.pairwise_cons.2 ⟨fun z hz => ?_, h⟩
        rcases List.mem_cons.1 hz with rfl | hz
        · exact h2
        · have := hx.1 z hz; omega
      · exact h
    · rename_i h1
      refine List.pairwise_cons.2 ⟨fun z hz => ?_, putL_asc hx.2⟩
      rcases putL_mem.1 hz with rfl | hz
      · omega
      · exact hx.1 z hz
def putW (cs : List Int) (p : Int × Int) : List Int := putL (putL cs p.1) (p.2 + 1)
theorem putW_mem {cs : List Int} {p : Int × Int} {z : Int} : z ∈ putW cs p ↔ z = p.2 + 1 ∨ z = p.1 ∨ z ∈ cs := by unfold putW; rw [putL_mem, putL_mem]
theorem putW_asc {cs : List Int} {p : Int × Int} (h : ascI cs) : ascI (putW cs p) := putL_asc (putL_asc h)
theorem putW_len (cs : List Int) (p : Int × Int) : (putW cs p).length ≤ cs.length + 2 := by
  have := putL_len (p.2 + 1) (putL cs p.1)
  have := putL_len p.1 cs
  unfold putW; omega
def cutsL (xs : List (Int × Int)) (cs : List Int) : List Int := xs.foldl putW cs
theorem cutsL_succ {xs : List (Int × Int)} {k : Nat} {x : Int × Int} (h : xs[k]? = some x) (cs : List Int) : cutsL (xs.take (k + 1)) cs = putW (cutsL (xs.take k) cs) x := by
  unfold cutsL
  rw [take_snoc_of h, List.foldl_append]; rfl
theorem cutsL_mem : ∀ {xs : List (Int × Int)} {cs : List Int} {z : Int}, z ∈ cutsL xs cs ↔ z ∈ cs ∨ ∃ p ∈ xs, z = p.1 ∨ z = p.2 + 1
  | [], cs, z => by simp [cutsL]
  | x :: r, cs, z => by
    have ih := cutsL_mem (xs := r) (cs := putW cs x) (z := z)
    rw [cutsL, List.foldl_cons, ← cutsL, ih, putW_mem]
    constructor
    · rintro ((h | h | h) | ⟨p, hp, h⟩)
      · exact .inr ⟨x, by simp, .inr h⟩
      · exact .inr ⟨x, by simp, .inl h⟩
      · exact .inl h
      · exact .inr ⟨p, by simp [hp], h⟩
    · rintro (h | ⟨p, hp, h⟩)
      · exact .inl (.inr (.inr h))
      · rcases List.mem_cons.1 hp with rfl | hp
        · exact h.elim (fun h => .inl (.inr (.inl h))) (fun h => .inl (.inl h))
        · exact .inr ⟨p, hp, h⟩
theorem cutsL_asc : ∀ {xs : List (Int × Int)} {cs : List Int}, ascI cs → ascI (cutsL xs cs)
  | [], _, h => h
  | x :: r, cs, h => by rw [cutsL, List.foldl_cons, ← cutsL]; exact cutsL_asc (putW_asc h)
theorem cutsL_len : ∀ (xs : List (Int × Int)) (cs : List Int), (cutsL xs cs).length ≤ cs.length + 2 * xs.length
  | [], cs => by simp [cutsL]
  | x :: r, cs => by
    have := cutsL_len r (putW cs x)
    have := putW_len cs x
    rw [cutsL, List.foldl_cons, ← cutsL, List.length_cons]; omega

/-! Segments between neighbours. -/
def segs : List Int → List (Int × Int)
  | [] => []
  | c :: r => match r with
    | [] => []
    | d :: _ => (c, d - 1) :: segs r
theorem segs_cons (c d : Int) (r : List Int) : segs (c :: d :: r) = (c, d - 1) :: segs (d :: r) := rfl
theorem segs_len : ∀ cs : List Int, (segs cs).length = cs.length - 1
  | [] => rfl
  | [c] => rfl
  | c :: d :: r => by rw [segs_cons, List.length_cons, segs_len (d :: r)]; simp
theorem segs_get : ∀ {cs : List Int} {k : Nat} {c d : Int}, cs[k]? = some c → cs[k + 1]? = some d → (segs cs)[k]? = some (c, d - 1)
  | [], k, c, d, h, _ => by simp at h
  | [x], k, c, d, _, h => by simp at h
  | x :: y :: r, 0, c, d, h, h' => by simp at h h'; subst h; subst h'; rfl
  | x :: y :: r, k + 1, c, d, h, h' => by
    rw [segs_cons, List.getElem?_cons_succ]
    exact segs_get (cs := y :: r) (by simpa using h) (by simpa using h')
theorem segs_low : ∀ {cs : List Int}, ascI cs → ∀ s ∈ segs cs, s.1 ∈ cs ∧ s.2 + 1 ∈ cs ∧ s.1 ≤ s.2 ∧ ∀ c ∈ cs, c ≤ s.1 ∨ s.2 + 1 ≤ c
  | [], _, s, hs => by cases hs
  | [x], _, s, hs => by cases hs
  | x :: y :: r, h, s, hs => by
    have hx := List.pairwise_cons.1 h
    have hy := List.pairwise_cons.1 hx.2
    have hxy := hx.1 y (by simp)
    rw [segs_cons] at hs
    rcases List.mem_cons.1 hs with rfl | hs
    · refine ⟨by simp, by simp, by dsimp only; omega, fun c hc => ?_⟩
      rcases List.mem_cons.1 hc with rfl | hc
      · exact .inl (Int.le_refl _)
      · rcases List.mem_cons.1 hc with rfl | hc
        · exact .inr (by dsimp only; omega)
        · have := hy.1 c hc; exact .inr (by dsimp only; omega)
    · obtain ⟨h1, h2, h3, h4⟩ := segs_low hx.2 s hs
      refine ⟨by simp at h1 ⊢; exact .inr h1, by simp at h2 ⊢; exact .inr h2, h3, fun c hc => ?_⟩
      rcases List.mem_cons.1 hc with rfl | hc
      · have := hx.1 s.1 h1; exact .inl (by omega)
      · exact h4 c hc
theorem segs_asc : ∀ {cs : List Int}, ascI cs → (segs cs).Pairwise (fun p q => p.2 + 1 ≤ q.1)
  | [], _ => List.Pairwise.nil
  | [x], _ => List.Pairwise.nil
  | x :: y :: r, h => by
    have hx := List.pairwise_cons.1 h
    rw [segs_cons]
    refine List.pairwise_cons.2 ⟨fun q hq => ?_, segs_asc hx.2⟩
    have := (segs_low hx.2 q hq).1
    dsimp only
    rcases List.mem_cons.1 this with e | e
    · omega
    · have := (List.pairwise_cons.1 hx.2).1 q.1 e; omega
theorem segs_all : ∀ {cs : List Int} {u v t : Int}, ascI cs → u ∈ cs → v ∈ cs → u ≤ t → t < v → ∃ s ∈ segs cs, s.1 ≤ t ∧ t ≤ s.2
  | [], u, v, t, _, h, _, _, _ => by cases h
  | [x], u, v, t, _, h, h', h1, h2 => by
    rw [List.mem_singleton] at h h'; omega
  | x :: y :: r, u, v, t, h, hu, hv, h1, h2 => by
    have hx := List.pairwise_cons.1 h
    by_cases hty : t < y
    · refine ⟨(x, y - 1), by rw [segs_cons]; simp, ?_, by dsimp only; omega⟩
      dsimp only
      rcases List.mem_cons.1 hu with rfl | hu
      · exact h1
      · rcases List.mem_cons.1 hu with rfl | hu
        · omega
        · have := (List.pairwise_cons.1 hx.2).1 u hu; omega
    · have hv' : v ∈ y :: r := by
        rcases List.mem_cons.1 hv with rfl | hv
        · have := hx.1 y (by simp); omega
        · exact hv
      obtain ⟨s, hs, h3⟩ := segs_all (u := y) hx.2 (by simp) hv' (by omega) h2
      exact ⟨s, by rw [segs_cons]; simp [hs], h3⟩

/-! The rule. -/
def inAt (xs : List (Int × Int)) (t : Int) : Bool := xs.any fun p => decide (p.1 ≤ t ∧ t ≤ p.2)
theorem inAt_iff {xs : List (Int × Int)} {t : Int} : inAt xs t = true ↔ inW xs t := by
  unfold inAt inW
  rw [List.any_eq_true]
  constructor
  · rintro ⟨p, hp, h⟩; exact ⟨p, hp, by simpa using h⟩
  · rintro ⟨p, hp, h⟩; exact ⟨p, hp, by simpa using h⟩
def ruleB (r : Int) (x y : Bool) : Bool := if r = 1 then x || y else if r = 2 then x && y else x && !y
def ruleAt (r : Int) (xs ys : List (Int × Int)) (t : Int) : Bool := ruleB r (inAt xs t) (inAt ys t)
def cutsOf (xs ys : List (Int × Int)) : List Int := cutsL ys (cutsL xs [])
def madeSegs (r : Int) (xs ys : List (Int × Int)) (ss : List (Int × Int)) : List (Int × Int) := ss.filter fun s => ruleAt r xs ys s.1
def madeL (r : Int) (xs ys : List (Int × Int)) : List (Int × Int) := joinL (madeSegs r xs ys (segs (cutsOf xs ys)))
theorem cutsOf_asc (xs ys : List (Int × Int)) : ascI (cutsOf xs ys) := cutsL_asc (cutsL_asc List.Pairwise.nil)
theorem cutsOf_mem {xs ys : List (Int × Int)} {z : Int} : z ∈ cutsOf xs ys ↔ ∃ p, (p ∈ xs ∨ p ∈ ys) ∧ (z = p.1 ∨ z = p.2 + 1) := by
  unfold cutsOf
  rw [cutsL_mem, cutsL_mem]
  constructor
  · rintro ((h | ⟨p, hp, h⟩) | ⟨p, hp, h⟩)
    · cases h
    · exact ⟨p, .inl hp, h⟩
    · exact ⟨p, .inr hp, h⟩
  · rintro ⟨p, hp | hp, h⟩
    · exact .inl (.inr ⟨p, hp, h⟩)
    · exact .inr ⟨p, hp, h⟩
theorem in_seg {zs : List (Int × Int)} {cs : List Int} {s : Int × Int} {t : Int} (hz : ∀ p ∈ zs, p.1 ∈ cs ∧ p.2 + 1 ∈ cs) (hs : ∀ c ∈ cs, c ≤ s.1 ∨ s.2 + 1 ≤ c) (h1 : s.1 ≤ t) (h2 : t ≤ s.2) : inAt zs t = inAt zs s.1 := by
  rw [Bool.eq_iff_iff, inAt_iff, inAt_iff]
  constructor
  · rintro ⟨p, hp, h3, h4⟩
    obtain ⟨c1, c2⟩ := hz p hp
    exact ⟨p, hp, by rcases hs _ c1 with h | h <;> omega, by omega⟩
  · rintro ⟨p, hp, h3, h4⟩
    obtain ⟨c1, c2⟩ := hz p hp
    exact ⟨p, hp, by omega, by rcases hs _ c2 with h | h <;> omega⟩
theorem rule_none {r : Int} {x y : Bool} (h : ruleB r x y = true) : x = true ∨ y = true := by
  unfold ruleB at h
  split at h
  · simpa using h
  · split at h
    · simp at h; exact .inl h.1
    · simp at h; exact .inl h.1
theorem madeL_law (r : Int) (xs ys : List (Int × Int)) : canon (madeL r xs ys) ∧ ∀ t, inW (madeL r xs ys) t ↔ ruleAt r xs ys t = true := by
  have ha := cutsOf_asc xs ys
  have hm : ∀ p, (p ∈ xs ∨ p ∈ ys) → p.1 ∈ cutsOf xs ys ∧ p.2 + 1 ∈ cutsOf xs ys := fun p hp => ⟨cutsOf_mem.2 ⟨p, hp, .inl rfl⟩, cutsOf_mem.2 ⟨p, hp, .inr rfl⟩⟩
  have hsub : ∀ s, s ∈ madeSegs r xs ys (segs (cutsOf xs ys)) → s ∈ segs (cutsOf xs ys) ∧ ruleAt r xs ys s.1 = true := fun s hs => by
    unfold madeSegs at hs; rw [List.mem_filter] at hs; exact hs
  obtain ⟨h1, h2⟩ := joinL_law (zs := madeSegs r xs ys (segs (cutsOf xs ys))) (fun s hs => (segs_low ha s (hsub s hs).1).2.2.1)
    (by
      unfold ascW madeSegs
      refine (List.Pairwise.filter _ (segs_asc ha)).imp_of_mem fun {p q} hp _ h => ?_
      have := (segs_low ha p (List.mem_filter.1 hp).1).2.2.1
      omega)
  refine ⟨h1, fun t => (h2 t).trans ?_⟩
  have same : ∀ s ∈ segs (cutsOf xs ys), s.1 ≤ t → t ≤ s.2 → ruleAt r xs ys t = ruleAt r xs ys s.1 := fun s hs h3 h4 => by
    have hl := (segs_low ha s hs).2.2.2
    unfold ruleAt
    rw [in_seg (fun p hp => hm p (.inl hp)) hl h3 h4, in_seg (fun p hp => hm p (.inr hp)) hl h3 h4]
  constructor
  · rintro ⟨s, hs, h3, h4⟩
    obtain ⟨h5, h6⟩ := hsub s hs
    rw [same s h5 h3 h4]; exact h6
  · intro hr
    have hin : ∃ p, (p ∈ xs ∨ p ∈ ys) ∧ p.1 ≤ t ∧ t ≤ p.2 := by
      rcases rule_none hr with h | h
      · obtain ⟨p, hp, h⟩ := inAt_iff.1 h; exact ⟨p, .inl hp, h⟩
      · obtain ⟨p, hp, h⟩ := inAt_iff.1 h; exact ⟨p, .inr hp, h⟩
    obtain ⟨p, hp, h3, h4⟩ := hin
    obtain ⟨c1, c2⟩ := hm p hp
    obtain ⟨s, hs, h5, h6⟩ := segs_all (t := t) ha c1 c2 h3 (by omega)
    refine ⟨s, ?_, h5, h6⟩
    unfold madeSegs
    rw [List.mem_filter]
    exact ⟨hs, by rw [← same s hs h5 h6]; exact hr⟩

/-! One step of the reference's loop. -/
def segT (r : Int) (xs ys : List (Int × Int)) (k : Nat) : List (Int × Int) := joinL (madeSegs r xs ys ((segs (cutsOf xs ys)).take k))
theorem segT_no {r : Int} {xs ys : List (Int × Int)} {k : Nat} {s : Int × Int} (h : (segs (cutsOf xs ys))[k]? = some s) (hr : ruleAt r xs ys s.1 = false) : segT r xs ys (k + 1) = segT r xs ys k := by
  unfold segT madeSegs
  rw [take_snoc_of h, List.filter_append, List.filter_cons_of_neg (by simp [hr]), List.filter_nil, List.append_nil]
theorem segT_yes {r : Int} {xs ys : List (Int × Int)} {k : Nat} {s : Int × Int} (h : (segs (cutsOf xs ys))[k]? = some s) (hr : ruleAt r xs ys s.1 = true) : segT r xs ys (k + 1) = addL (segT r xs ys k) s := by
  unfold segT madeSegs joinL
  rw [take_snoc_of h, List.filter_append, List.filter_cons_of_pos (by simp [hr]), List.filter_nil, List.foldl_append]; rfl
theorem segT_end {r : Int} {xs ys : List (Int × Int)} {k : Nat} (h : (cutsOf xs ys).length ≤ k + 1) : segT r xs ys k = madeL r xs ys := by
  unfold segT madeL
  rw [List.take_of_length_le (by rw [segs_len]; omega)]
theorem segT_len (r : Int) (xs ys : List (Int × Int)) (k : Nat) : (segT r xs ys k).length ≤ k := by
  have h1 := joinL_len (madeSegs r xs ys ((segs (cutsOf xs ys)).take k))
  have h2 : (madeSegs r xs ys ((segs (cutsOf xs ys)).take k)).length ≤ ((segs (cutsOf xs ys)).take k).length := List.length_filter_le _ _
  rw [List.length_take] at h2
  unfold segT; omega
/-- nothing that was joined reaches the next segment -/
theorem segT_before {r : Int} {xs ys : List (Int × Int)} {k : Nat} {s l : Int × Int} (h : (segs (cutsOf xs ys))[k]? = some s) (hl : l ∈ segT r xs ys k) : l.1 ≤ l.2 ∧ l.2 + 1 ≤ s.1 ∧ ∃ z ∈ cutsOf xs ys, z ≤ l.1 := by
  have ha := cutsOf_asc xs ys
  have hp := segs_asc ha
  have hlt := (List.getElem?_eq_some_iff.1 h).1
  have hsub : ∀ q ∈ madeSegs r xs ys ((segs (cutsOf xs ys)).take k), q ∈ segs (cutsOf xs ys) ∧ q.2 + 1 ≤ s.1 := fun q hq => by
    unfold madeSegs at hq
    have hq1 := (List.mem_filter.1 hq).1
    refine ⟨List.mem_of_mem_take hq1, ?_⟩
    obtain ⟨i, hi, e⟩ := List.getElem_of_mem hq1
    rw [List.length_take] at hi
    rw [List.getElem_take] at e
    have := (List.pairwise_iff_getElem.1 hp) i k (by omega) hlt (by omega)
    rw [e] at this
    rwa [(List.getElem?_eq_some_iff.1 h).2] at this
  obtain ⟨h1, h2⟩ := joinL_law (zs := madeSegs r xs ys ((segs (cutsOf xs ys)).take k)) (fun q hq => (segs_low ha q (hsub q hq).1).2.2.1)
    (by
      unfold ascW madeSegs
      refine (List.Pairwise.filter _ (List.Pairwise.sublist (List.take_sublist _ _) hp)).imp_of_mem fun {p q} hp _ h => ?_
      have := (segs_low ha p (List.mem_of_mem_take (List.mem_filter.1 hp).1)).2.2.1
      omega)
  have ho := h1.1 l hl
  obtain ⟨q, hq, h3, h4⟩ := (h2 l.2).1 ⟨l, hl, ho, Int.le_refl _⟩
  have := (hsub q hq).2
  obtain ⟨q', hq', h5, h6⟩ := (h2 l.1).1 ⟨l, hl, Int.le_refl _, ho⟩
  exact ⟨ho, by omega, q'.1, (segs_low ha q' (hsub q' hq').1).1, h5⟩
end Go.Proofs.Ytdneffnnpjgnbab
