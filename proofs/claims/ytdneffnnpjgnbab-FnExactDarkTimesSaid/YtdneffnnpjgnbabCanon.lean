/- Sets of times as lists of windows: a list in order with gaps is told by its times; joining, meeting, leaving out; no program in sight. -/
import Derived.Test.YtdneffnnpjgnbabWindows
namespace Go.Proofs.Ytdneffnnpjgnbab

def inW (xs : List (Int × Int)) (t : Int) : Prop := ∃ p, p ∈ xs ∧ p.1 ≤ t ∧ t ≤ p.2
def okW (xs : List (Int × Int)) : Prop := ∀ p ∈ xs, p.1 ≤ p.2
/-- in order, with gaps -/
def canon (xs : List (Int × Int)) : Prop := okW xs ∧ xs.Pairwise (fun p q => p.2 + 1 < q.1)

theorem inW_nil (t : Int) : ¬ inW [] t := fun ⟨_, h, _⟩ => by cases h
theorem inW_cons {p : Int × Int} {r : List (Int × Int)} {t : Int} : inW (p :: r) t ↔ (p.1 ≤ t ∧ t ≤ p.2) ∨ inW r t := by
  unfold inW
  constructor
  · rintro ⟨q, h, h1⟩
    rcases List.mem_cons.1 h with rfl | h
    · exact .inl h1
    · exact .inr ⟨q, h, h1⟩
  · rintro (h | ⟨q, h, h1⟩)
    · exact ⟨p, by simp, h⟩
    · exact ⟨q, by simp [h], h1⟩
theorem inW_append {xs ys : List (Int × Int)} {t : Int} : inW (xs ++ ys) t ↔ inW xs t ∨ inW ys t := by
  unfold inW
  constructor
  · rintro ⟨q, h, h1⟩
    rcases List.mem_append.1 h with h | h
    · exact .inl ⟨q, h, h1⟩
    · exact .inr ⟨q, h, h1⟩
  · rintro (⟨q, h, h1⟩ | ⟨q, h, h1⟩)
    · exact ⟨q, by simp [h], h1⟩
    · exact ⟨q, by simp [h], h1⟩
theorem inW_one {p : Int × Int} {t : Int} : inW [p] t ↔ p.1 ≤ t ∧ t ≤ p.2 := by rw [inW_cons]; exact ⟨fun h => h.elim id (fun h => absurd h (inW_nil t)), .inl⟩
theorem inW_same {xs ys : List (Int × Int)} (h : ∀ p, p ∈ xs ↔ p ∈ ys) (t : Int) : inW xs t ↔ inW ys t :=
  ⟨fun ⟨p, h1, h2⟩ => ⟨p, (h p).1 h1, h2⟩, fun ⟨p, h1, h2⟩ => ⟨p, (h p).2 h1, h2⟩⟩
theorem canon_tail {p : Int × Int} {r : List (Int × Int)} (h : canon (p :: r)) : canon r := ⟨fun q hq => h.1 q (by simp [hq]), (List.pairwise_cons.1 h.2).2⟩
theorem canon_far {p : Int × Int} {r : List (Int × Int)} (h : canon (p :: r)) {t : Int} (ht : inW r t) : p.2 + 1 < t := by
  obtain ⟨q, hq, h1, _⟩ := ht
  have := (List.pairwise_cons.1 h.2).1 q hq
  omega
theorem canon_one : ∀ {xs ys : List (Int × Int)}, canon xs → canon ys → (∀ t, inW xs t ↔ inW ys t) → xs = ys
  | [], [], _, _, _ => rfl
  | [], y :: s, _, hy, h => absurd ((h y.1).2 (inW_cons.2 (.inl ⟨Int.le_refl _, hy.1 y (by simp)⟩))) (inW_nil _)
  | x :: r, [], hx, _, h => absurd ((h x.1).1 (inW_cons.2 (.inl ⟨Int.le_refl _, hx.1 x (by simp)⟩))) (inW_nil _)
  | x :: r, y :: s, hx, hy, h => by
    have ox := hx.1 x (by simp)
    have oy := hy.1 y (by simp)
    have low : ∀ {p : Int × Int} {r : List (Int × Int)} {t : Int}, canon (p :: r) → inW (p :: r) t → p.1 ≤ t := fun {p r t} hc ht => by
      rcases inW_cons.1 ht with h1 | h1
      · exact h1.1
      · have := canon_far hc h1; have := hc.1 p (by simp); omega
    have e1 : x.1 = y.1 := by
      have a := low hy ((h x.1).1 (inW_cons.2 (.inl ⟨Int.le_refl _, ox⟩)))
      have b := low hx ((h y.1).2 (inW_cons.2 (.inl ⟨Int.le_refl _, oy⟩)))
      omega
    have e2 : x.2 = y.2 := by
      rcases Int.lt_trichotomy x.2 y.2 with hl | hl | hl
      · have := (h (x.2 + 1)).2 (inW_cons.2 (.inl ⟨by omega, by omega⟩))
        rcases inW_cons.1 this with h1 | h1
        · omega
        · have := canon_far hx h1; omega
      · exact hl
      · have := (h (y.2 + 1)).1 (inW_cons.2 (.inl ⟨by omega, by omega⟩))
        rcases inW_cons.1 this with h1 | h1
        · omega
        · have := canon_far hy h1; omega
    have e : x = y := Prod.ext e1 e2
    have er : r = s := canon_one (canon_tail hx) (canon_tail hy) fun t => by
      constructor
      · intro ht
        have f := canon_far hx ht
        rcases inW_cons.1 ((h t).1 (inW_cons.2 (.inr ht))) with h1 | h1
        · omega
        · exact h1
      · intro ht
        have f := canon_far hy ht
        rcases inW_cons.1 ((h t).2 (inW_cons.2 (.inr ht))) with h1 | h1
        · omega
        · exact h1
    rw [e, er]
theorem canon_snoc {o : List (Int × Int)} {p : Int × Int} (h : canon o) (hp : p.1 ≤ p.2) (hl : ∀ q ∈ o, q.2 + 1 < p.1) : canon (o ++ [p]) := by
  refine ⟨fun q hq => ?_, List.pairwise_append.2 ⟨h.2, List.pairwise_singleton _ _, fun q hq r hr => ?_⟩⟩
  · rcases List.mem_append.1 hq with h1 | h1
    · exact h.1 q h1
    · rw [List.mem_singleton.1 h1]; exact hp
  · rw [List.mem_singleton.1 hr]; exact hl q hq
theorem canon_init {o : List (Int × Int)} {p : Int × Int} (h : canon (o ++ [p])) : canon o ∧ p.1 ≤ p.2 ∧ ∀ q ∈ o, q.2 + 1 < p.1 :=
  ⟨⟨fun q hq => h.1 q (by simp [hq]), (List.pairwise_append.1 h.2).1⟩, h.1 p (by simp), fun q hq => (List.pairwise_append.1 h.2).2.2 q hq p (by simp)⟩
theorem last_snoc {α : Type} {xs : List α} {k : Nat} {p : α} (h : xs[k]? = some p) (hk : k + 1 = xs.length) : xs = xs.take k ++ [p] := by
  have := take_snoc_of h
  rw [List.take_of_length_le (by omega)] at this
  exact this

/-! Joining windows that come in order of their begin. -/
def addL (o : List (Int × Int)) (w : Int × Int) : List (Int × Int) :=
  match o.getLast? with
  | none => [w]
  | some l => if w.1 ≤ l.2 + 1 then o.dropLast ++ [(l.1, max l.2 w.2)] else o ++ [w]
theorem addL_nil (w : Int × Int) : addL [] w = [w] := rfl
theorem addL_in {o : List (Int × Int)} {l w : Int × Int} (h : w.1 ≤ l.2 + 1) : addL (o ++ [l]) w = o ++ [(l.1, max l.2 w.2)] := by simp [addL, h]
theorem addL_out {o : List (Int × Int)} {l w : Int × Int} (h : ¬ w.1 ≤ l.2 + 1) : addL (o ++ [l]) w = o ++ [l] ++ [w] := by simp [addL, h]
theorem snoc_cases {α : Type} (o : List α) : o = [] ∨ ∃ i l, o = i ++ [l] := by
  rcases List.eq_nil_or_concat o with h | ⟨i, l, h⟩
  · exact .inl h
  · exact .inr ⟨i, l, by rw [h, List.concat_eq_append]⟩
theorem addL_law {o : List (Int × Int)} {w : Int × Int} (h : canon o) (hw : w.1 ≤ w.2) (hf : ∀ q ∈ o, q.1 ≤ w.1) :
    canon (addL o w) ∧ (∀ t, inW (addL o w) t ↔ inW o t ∨ (w.1 ≤ t ∧ t ≤ w.2)) ∧ (∀ q ∈ addL o w, q.1 ≤ w.1) := by
  rcases snoc_cases o with rfl | ⟨i, l, rfl⟩
  · rw [addL_nil]
    refine ⟨⟨fun q hq => ?_, List.pairwise_singleton _ _⟩, fun t => ?_, fun q hq => ?_⟩
    · rw [List.mem_singleton.1 hq]; exact hw
    · rw [inW_one]; exact ⟨.inr, fun h => h.elim (fun h => absurd h (inW_nil t)) id⟩
    · rw [List.mem_singleton.1 hq]; exact Int.le_refl _
  · obtain ⟨h1, h2, h3⟩ := canon_init h
    have hl := hf l (by simp)
    by_cases hc : w.1 ≤ l.2 + 1
    · rw [addL_in hc]
      refine ⟨canon_snoc h1 (by dsimp only; omega) h3, fun t => ?_, fun q hq => ?_⟩
      · rw [inW_append, inW_append, inW_one, inW_one]
        dsimp only
        constructor
        · rintro (h | h)
          · exact .inl (.inl h)
          · by_cases ht : t ≤ l.2
            · exact .inl (.inr ⟨h.1, ht⟩)
            · exact .inr ⟨by omega, by omega⟩
        · rintro ((h | h) | h)
          · exact .inl h
          · exact .inr ⟨h.1, by omega⟩
          · exact .inr ⟨by omega, by omega⟩
      · rcases List.mem_append.1 hq with h | h
        · exact hf q (by simp [h])
        · rw [List.mem_singleton.1 h]; exact hl
    · rw [addL_out hc]
      refine ⟨canon_snoc h hw fun q hq => ?_, fun t => ?_, fun q hq => ?_⟩
      · rcases List.mem_append.1 hq with h | h
        · have := h3 q h; omega
        · rw [List.mem_singleton.1 h]; omega
      · rw [inW_append, inW_one]
      · rcases List.mem_append.1 hq with h | h
        · exact hf q h
        · rw [List.mem_singleton.1 h]; exact Int.le_refl _
def joinL (zs : List (Int × Int)) : List (Int × Int) := zs.foldl addL []
def ascW (zs : List (Int × Int)) : Prop := zs.Pairwise (fun p q => p.1 ≤ q.1)
theorem foldL_law : ∀ (zs o : List (Int × Int)), canon o → okW zs → ascW zs → (∀ q ∈ o, ∀ w ∈ zs, q.1 ≤ w.1) → canon (zs.foldl addL o) ∧ ∀ t, inW (zs.foldl addL o) t ↔ inW o t ∨ inW zs t
  | [], o, h, _, _, _ => ⟨h, fun t => ⟨.inl, fun h => h.elim id (fun h => absurd h (inW_nil t))⟩⟩
  | w :: r, o, h, hw, ha, hf => by
    obtain ⟨a1, a2, a3⟩ := addL_law h (hw w (by simp)) (fun q hq => hf q hq w (by simp))
    have hr := List.pairwise_cons.1 ha
    obtain ⟨b1, b2⟩ := foldL_law r (addL o w) a1 (fun p hp => hw p (by simp [hp])) hr.2 (fun q hq z hz => by
      have h1 := a3 q hq
      have h2 := hr.1 z hz
      omega)
    refine ⟨b1, fun t => ?_⟩
    rw [List.foldl_cons, b2 t, a2 t, inW_cons, or_assoc]
theorem joinL_law {zs : List (Int × Int)} (h : okW zs) (ha : ascW zs) : canon (joinL zs) ∧ ∀ t, inW (joinL zs) t ↔ inW zs t := by
  obtain ⟨h1, h2⟩ := foldL_law zs [] ⟨fun p hp => (by cases hp), List.Pairwise.nil⟩ h ha (fun q hq => (by cases hq))
  exact ⟨h1, fun t => (h2 t).trans ⟨fun h => h.elim (fun h => absurd h (inW_nil t)) id, .inr⟩⟩
theorem addL_len (o : List (Int × Int)) (w : Int × Int) : (addL o w).length ≤ o.length + 1 := by
  rcases snoc_cases o with rfl | ⟨i, l, rfl⟩
  · simp [addL_nil]
  · by_cases hc : w.1 ≤ l.2 + 1
    · rw [addL_in hc]; simp
    · rw [addL_out hc]; simp
theorem foldL_len : ∀ (zs o : List (Int × Int)), (zs.foldl addL o).length ≤ o.length + zs.length
  | [], o => by simp
  | w :: r, o => by
    have := foldL_len r (addL o w)
    have := addL_len o w
    rw [List.foldl_cons, List.length_cons]; omega
theorem joinL_len (zs : List (Int × Int)) : (joinL zs).length ≤ zs.length := by
  have := foldL_len zs []
  unfold joinL; simpa using this
theorem joinL_succ {zs : List (Int × Int)} {k : Nat} {w : Int × Int} (h : zs[k]? = some w) : joinL (zs.take (k + 1)) = addL (joinL (zs.take k)) w := by
  unfold joinL
  rw [take_snoc_of h, List.foldl_append]; rfl

/-! Meeting. -/
def bothW (x y : Int × Int) : Option (Int × Int) := if max x.1 y.1 ≤ min x.2 y.2 then some (max x.1 y.1, min x.2 y.2) else none
def meetP (a b : List (Int × Int)) : List (Int × Int) := a.flatMap fun x => b.filterMap (bothW x)
theorem meetP_ok (a b : List (Int × Int)) : okW (meetP a b) := by
  intro p hp
  unfold meetP at hp
  obtain ⟨x, _, h⟩ := List.mem_flatMap.1 hp
  obtain ⟨y, _, h⟩ := List.mem_filterMap.1 h
  unfold bothW at h
  split at h
  · cases h; assumption
  · cases h
theorem meetP_in (a b : List (Int × Int)) (t : Int) : inW (meetP a b) t ↔ inW a t ∧ inW b t := by
  constructor
  · rintro ⟨p, hp, h1, h2⟩
    unfold meetP at hp
    obtain ⟨x, hx, h⟩ := List.mem_flatMap.1 hp
    obtain ⟨y, hy, h⟩ := List.mem_filterMap.1 h
    unfold bothW at h
    split at h
    · cases h
      dsimp only at h1 h2
      exact ⟨⟨x, hx, by omega, by omega⟩, ⟨y, hy, by omega, by omega⟩⟩
    · cases h
  · rintro ⟨⟨x, hx, h1, h2⟩, ⟨y, hy, h3, h4⟩⟩
    refine ⟨(max x.1 y.1, min x.2 y.2), List.mem_flatMap.2 ⟨x, hx, List.mem_filterMap.2 ⟨y, hy, ?_⟩⟩, by dsimp only; omega, by dsimp only; omega⟩
    unfold bothW
    rw [if_pos (by omega)]
theorem filterMap_le {α β : Type} (f : α → Option β) (l : List α) : (l.filterMap f).length ≤ l.length := List.length_filterMap_le f l
theorem meetP_len (a b : List (Int × Int)) : (meetP a b).length ≤ a.length * b.length := by
  unfold meetP
  induction a with
  | nil => simp
  | cons x r ih =>
    have := filterMap_le (bothW x) b
    rw [List.flatMap_cons, List.length_append, List.length_cons, Nat.succ_mul]; omega
theorem meetP_succ {a b : List (Int × Int)} {k : Nat} {x : Int × Int} (h : a[k]? = some x) : meetP (a.take (k + 1)) b = meetP (a.take k) b ++ b.filterMap (bothW x) := by
  unfold meetP
  rw [take_snoc_of h, List.flatMap_append]; simp
theorem both_yes {b : List (Int × Int)} {k : Nat} {x y p : Int × Int} (h : b[k]? = some y) (hp : bothW x y = some p) : (b.take (k + 1)).filterMap (bothW x) = (b.take k).filterMap (bothW x) ++ [p] := by
  rw [take_snoc_of h, List.filterMap_append]; simp [hp]
theorem both_no {b : List (Int × Int)} {k : Nat} {x y : Int × Int} (h : b[k]? = some y) (hp : bothW x y = none) : (b.take (k + 1)).filterMap (bothW x) = (b.take k).filterMap (bothW x) := by
  rw [take_snoc_of h, List.filterMap_append]; simp [hp]

/-! What is left over. -/
def restG : List (Int × Int) → Int → List (Int × Int)
  | [], f => if f ≤ 10000000 then [(f, 10000000)] else []
  | w :: r, f => if f < w.1 then (f, w.1 - 1) :: restG r (w.2 + 1) else restG r (w.2 + 1)
theorem restG_ok : ∀ (cs : List (Int × Int)) (f : Int), okW (restG cs f)
  | [], f => by
    unfold restG
    split
    · rename_i h
      intro p hp
      rw [List.mem_singleton.1 hp]; exact h
    · intro p hp; cases hp
  | w :: r, f => by
    unfold restG
    split
    · rename_i h
      intro p hp
      rcases List.mem_cons.1 hp with rfl | h1
      · dsimp only; omega
      · exact restG_ok r _ p h1
    · exact restG_ok r _
theorem restG_in : ∀ (cs : List (Int × Int)) (f : Int), canon cs → (∀ p ∈ cs, f ≤ p.1 ∧ p.2 ≤ 10000000) → ∀ t, inW (restG cs f) t ↔ f ≤ t ∧ t ≤ 10000000 ∧ ¬ inW cs t
  | [], f, _, _, t => by
    unfold restG
    split
    · rw [inW_one]
      exact ⟨fun h => ⟨h.1, h.2, inW_nil t⟩, fun h => ⟨h.1, h.2.1⟩⟩
    · exact ⟨fun h => absurd h (inW_nil t), fun h => by omega⟩
  | w :: r, f, hc, hb, t => by
    have hw := hc.1 w (by simp)
    have hwb := hb w (by simp)
    have ih := restG_in r (w.2 + 1) (canon_tail hc) (fun p hp => ⟨by have := (List.pairwise_cons.1 hc.2).1 p hp; omega, (hb p (by simp [hp])).2⟩) t
    have far := fun h : inW r t => canon_far hc h
    unfold restG
    split
    · rw [inW_cons, ih, inW_cons]
      dsimp only
      constructor
      · rintro (h | h)
        · exact ⟨h.1, by omega, fun e => e.elim (fun e => by omega) (fun e => by have := far e; omega)⟩
        · exact ⟨by omega, h.2.1, fun e => e.elim (fun e => by omega) h.2.2⟩
      · rintro ⟨h1, h2, h3⟩
        by_cases ht : t < w.1
        · exact .inl ⟨h1, by omega⟩
        · exact .inr ⟨by by_cases h5 : t ≤ w.2; exact absurd (.inl ⟨by omega, h5⟩) h3; omega, h2, fun e => h3 (.inr e)⟩
    · rw [ih, inW_cons]
      constructor
      · rintro h
        exact ⟨by omega, h.2.1, fun e => e.elim (fun e => by omega) h.2.2⟩
      · rintro ⟨h1, h2, h3⟩
        exact ⟨by by_cases h5 : t ≤ w.2; exact absurd (.inl ⟨by omega, h5⟩) h3; omega, h2, fun e => h3 (.inr e)⟩
theorem restG_len : ∀ (cs : List (Int × Int)) (f : Int), (restG cs f).length ≤ cs.length + 1
  | [], f => by unfold restG; split <;> simp
  | w :: r, f => by
    have := restG_len r (w.2 + 1)
    unfold restG
    split <;> simp <;> omega
end Go.Proofs.Ytdneffnnpjgnbab
