/- Merging two rising pieces of an array by turning its middle: what rotating and exchanging do, no program in sight. -/
import Derived.Sort.LotA
import Derived.Test.YtdneffnnpjgnbabPlain
namespace Go.Proofs.Ytdneffnnpjgnbab
open Go.Sort
variable {α : Type} [Inhabited α] {lt : α → α → Bool}

/-- the exchange of two ranges of the same length -/
def swpR (d : Array α) (a b : Nat) : Nat → Array α
  | 0 => d
  | n + 1 => swp (swpR d a b n) (a + n) (b + n)
theorem swpR_size (d : Array α) (a b : Nat) : ∀ n, (swpR d a b n).size = d.size
  | 0 => rfl
  | n + 1 => by rw [swpR, swp_size, swpR_size d a b n]
theorem swpR_get (d : Array α) {a b : Nat} : ∀ n, a + n ≤ b → b + n ≤ d.size → ∀ k, (swpR d a b n)[k]! = if a ≤ k ∧ k < a + n then d[b + (k - a)]! else if b ≤ k ∧ k < b + n then d[a + (k - b)]! else d[k]!
  | 0, _, _, k => by rw [swpR, if_neg (by omega), if_neg (by omega)]
  | n + 1, h1, h2, k => by
    have hz := swpR_size d a b n
    rw [swpR, swp_get (swpR d a b n) (i := a + n) (j := b + n) (by omega) (by omega)]
    have ih := swpR_get d (a := a) (b := b) n (by omega) (by omega)
    by_cases e1 : k = b + n
    · subst e1
      rw [if_pos rfl, ih, if_neg (by omega), if_neg (by omega), if_neg (by omega), if_pos (by omega)]
      congr 1; omega
    · rw [if_neg e1]
      by_cases e2 : k = a + n
      · subst e2
        rw [if_pos rfl, ih, if_neg (by omega), if_neg (by omega), if_pos (by omega)]
        congr 1; omega
      · rw [if_neg e2, ih]
        by_cases e3 : a ≤ k ∧ k < a + n
        · rw [if_pos e3, if_pos (by omega)]
        · rw [if_neg e3, if_neg (c := a ≤ k ∧ k < a + (n + 1)) (by omega)]
          by_cases e4 : b ≤ k ∧ k < b + n
          · rw [if_pos e4, if_pos (by omega)]
          · rw [if_neg e4, if_neg (by omega)]
theorem swpR_perm (d : Array α) {a b lo hi : Nat} : ∀ n, lo ≤ a → a + n ≤ b → b + n ≤ hi → hi ≤ d.size → PermIn lo hi d (swpR d a b n)
  | 0, _, _, _, _ => permIn_refl d lo hi
  | n + 1, h0, h1, h2, h3 => permIn_trans _ _ _ _ _ (swpR_perm d n h0 (by omega) (by omega) h3) (swp_permIn _ _ _ _ _ (by omega) (by omega) (by omega) (by omega) (by rw [swpR_size]; exact h3))

/-- d' is d with [a, m) and [m, b) turned -/
structure Rot (a m b : Nat) (d d' : Array α) : Prop where
  perm : PermIn a b d d'
  left : ∀ k, k < b - m → d'[a + k]! = d[m + k]!
  right : ∀ k, k < m - a → d'[a + (b - m) + k]! = d[a + k]!
theorem Rot.size {a m b : Nat} {d d' : Array α} (h : Rot a m b d d') : d'.size = d.size := h.perm.1
theorem Rot.out {a m b : Nat} {d d' : Array α} (h : Rot a m b d d') {i : Nat} (hi : i < a ∨ b ≤ i) : d'[i]! = d[i]! := h.perm.2.1 i hi
theorem rot_none (d : Array α) (a m : Nat) : Rot a m m d d := ⟨permIn_refl _ _ _, fun k hk => by omega, fun k hk => by rw [Nat.sub_self, Nat.add_zero]⟩
theorem rot_none' (d : Array α) (m b : Nat) : Rot m m b d d := ⟨permIn_refl _ _ _, fun k hk => rfl, fun k hk => by omega⟩
/-- equal lengths -/
theorem rot_eq (d : Array α) {a m b : Nat} (h : m - a = b - m) (ham : a ≤ m) (hmb : m ≤ b) (hb : b ≤ d.size) : Rot a m b d (swpR d a m (b - m)) := by
  refine ⟨swpR_perm d _ (Nat.le_refl _) (by omega) (by omega) hb, fun k hk => ?_, fun k hk => ?_⟩
  · rw [swpR_get d _ (by omega) (by omega), if_pos (by omega)]; congr 1; omega
  · rw [swpR_get d _ (by omega) (by omega), if_neg (by omega), if_pos (by omega)]; congr 1; omega
/-- the left one is longer -/
theorem rot_left {d d' : Array α} {a m b : Nat} (h : b - m < m - a) (ham : a ≤ m) (hmb : m ≤ b) (hb : b ≤ d.size) (hr : Rot (a + (b - m)) m b (swpR d a m (b - m)) d') : Rot a m b d d' := by
  have g := swpR_get d (a := a) (b := m) (b - m) (by omega) (by omega)
  refine ⟨permIn_trans _ _ _ _ _ (swpR_perm d (b - m) (Nat.le_refl _) (by omega) (by omega) hb) (permIn_mono _ _ _ _ _ _ (by omega) (Nat.le_refl _) (by rw [swpR_size]; exact hb) hr.perm), fun k hk => ?_, fun k hk => ?_⟩
  · rw [hr.out (.inl (by omega)), g, if_pos (by omega)]; congr 1; omega
  · by_cases hk2 : k < b - m
    · rw [hr.left k hk2, g, if_neg (by omega), if_pos (by omega)]; congr 1; omega
    · have := hr.right (k - (b - m)) (by omega)
      rw [show a + (b - m) + (b - m) + (k - (b - m)) = a + (b - m) + k by omega, g, if_neg (by omega), if_neg (by omega)] at this
      rw [this]; congr 1; omega
/-- the right one is longer -/
theorem rot_right {d d' : Array α} {a m b : Nat} (h : m - a < b - m) (ham : a ≤ m) (hmb : m ≤ b) (hb : b ≤ d.size) (hr : Rot a m (b - (m - a)) (swpR d a (b - (m - a)) (m - a)) d') : Rot a m b d d' := by
  have g := swpR_get d (a := a) (b := b - (m - a)) (m - a) (by omega) (by omega)
  refine ⟨permIn_trans _ _ _ _ _ (swpR_perm d (m - a) (Nat.le_refl _) (by omega) (by omega) hb) (permIn_mono _ _ _ _ _ _ (Nat.le_refl _) (by omega) (by rw [swpR_size]; exact hb) hr.perm), fun k hk => ?_, fun k hk => ?_⟩
  · by_cases hk2 : k < b - m - (m - a)
    · rw [hr.left k (by omega), g, if_neg (by omega), if_neg (by omega)]
    · have := hr.right (k - (b - m - (m - a))) (by omega)
      rw [show a + (b - (m - a) - m) + (k - (b - m - (m - a))) = a + k by omega, g, if_pos (by omega)] at this
      rw [this]; congr 1; omega
  · rw [hr.out (.inr (by omega)), g, if_neg (by omega), if_pos (by omega)]; congr 1; omega
/-- one element moves up by one place -/
theorem rot_up {d d' : Array α} {a k : Nat} (hr : Rot a (a + 1) (k + 1) d d') (hak : a ≤ k) (hk : k + 1 < d.size) : Rot a (a + 1) (k + 2) d (swp d' k (k + 1)) := by
  have hs := hr.size
  have g := swp_get d' (i := k) (j := k + 1) (by omega) (by omega)
  refine ⟨permIn_trans _ _ _ _ _ (permIn_mono _ _ _ _ _ _ (Nat.le_refl _) (by omega) (by omega) hr.perm) (swp_permIn _ _ _ _ _ (by omega) (by omega) (by omega) (by omega) (by omega)), fun j hj => ?_, fun j hj => ?_⟩
  · rw [g]
    by_cases e : a + j = k
    · rw [if_neg (by omega), if_pos e, hr.out (.inr (by omega))]; congr 1; omega
    · rw [if_neg (by omega), if_neg e, hr.left j (by omega)]
  · have hj0 : j = 0 := by omega
    subst hj0
    rw [g, if_pos (by omega)]
    have := hr.right 0 (by omega)
    rw [← this]; congr 1; omega
/-- one element moves down by one place -/
theorem rot_down {d d' : Array α} {m k : Nat} (hr : Rot (k + 1) m (m + 1) d d') (hkm : k + 1 ≤ m) (hm : m < d.size) : Rot k m (m + 1) d (swp d' (k + 1) k) := by
  have hs := hr.size
  have g := swp_get d' (i := k + 1) (j := k) (by omega) (by omega)
  refine ⟨permIn_trans _ _ _ _ _ (permIn_mono _ _ _ _ _ _ (by omega) (Nat.le_refl _) (by omega) hr.perm) (swp_permIn _ _ _ _ _ (by omega) (by omega) (by omega) (by omega) (by omega)), fun j hj => ?_, fun j hj => ?_⟩
  · have hj0 : j = 0 := by omega
    subst hj0
    rw [g, if_pos (by omega)]
    have := hr.left 0 (by omega)
    rw [← this]
  · rw [g, if_neg (by omega)]
    by_cases e : j = 0
    · subst e
      rw [if_pos (by omega), hr.out (.inl (by omega))]; congr 1
    · rw [if_neg (by omega)]
      have := hr.right (j - 1) (by omega)
      rw [show k + 1 + (m + 1 - m) + (j - 1) = k + (m + 1 - m) + j by omega] at this
      rw [this]; congr 1; omega

omit [Inhabited α] in
theorem SWO.le_trans (hS : SWO lt) {x y z : α} (h1 : lt y x = false) (h2 : lt z y = false) : lt z x = false := hS.ntrans _ _ _ h2 h1
theorem sorted_le (hS : SWO lt) {a b : Nat} {d : Array α} (h : SortedIn lt a b d) {i j : Nat} (hi : a ≤ i) (hij : i ≤ j) (hj : j < b) : lt d[j]! d[i]! = false := by
  rcases Nat.lt_or_ge i j with c | c
  · exact h i j hi c hj
  · have : i = j := by omega
    subst this; exact hS.irrefl _
theorem sorted_part {a b a' b' : Nat} {d : Array α} (h : SortedIn lt a b d) (ha : a ≤ a') (hb : b' ≤ b) : SortedIn lt a' b' d := fun i j h1 h2 h3 => h i j (by omega) h2 (by omega)
theorem sorted_eq {a b : Nat} {d d' : Array α} (h : SortedIn lt a b d) (he : ∀ i, a ≤ i → i < b → d'[i]! = d[i]!) : SortedIn lt a b d' := fun i j h1 h2 h3 => by
  rw [he i h1 (by omega), he j (by omega) h3]; exact h i j h1 h2 h3
theorem sorted_none {a b : Nat} {d : Array α} (h : b ≤ a + 1) : SortedIn lt a b d := fun i j h1 h2 h3 => by omega

/-- behind the turn: four rising pieces, and nothing ahead of the middle is greater than what is behind it -/
theorem rot_glue (hS : SWO lt) {d d' : Array α} {a s m e b : Nat} (hA : SortedIn lt a m d) (hB : SortedIn lt m b d) (has : a ≤ s) (hsm : s ≤ m) (hme : m ≤ e) (heb : e ≤ b) (hr : Rot s m e d d')
    (c1 : s = a ∨ e = b ∨ lt d[e]! d[s - 1]! = false) (c2 : s = m ∨ e = m ∨ lt d[s]! d[e - 1]! = false) :
    SortedIn lt a s d' ∧ SortedIn lt s (s + (e - m)) d' ∧ SortedIn lt (s + (e - m)) e d' ∧ SortedIn lt e b d' ∧ (∀ x y, a ≤ x → x < s + (e - m) → s + (e - m) ≤ y → y < b → lt d'[y]! d'[x]! = false) := by
  have L : ∀ i, s ≤ i → i < s + (e - m) → d'[i]! = d[m + (i - s)]! := fun i h1 h2 => by
    have := hr.left (i - s) (by omega)
    rwa [show s + (i - s) = i by omega] at this
  have R : ∀ i, s + (e - m) ≤ i → i < e → d'[i]! = d[s + (i - (s + (e - m)))]! := fun i h1 h2 => by
    have := hr.right (i - (s + (e - m))) (by omega)
    rwa [show s + (e - m) + (i - (s + (e - m))) = i by omega] at this
  refine ⟨fun i j h1 h2 h3 => ?_, fun i j h1 h2 h3 => ?_, fun i j h1 h2 h3 => ?_, fun i j h1 h2 h3 => ?_, fun x y h1 h2 h3 h4 => ?_⟩
  · rw [hr.out (.inl (by omega)), hr.out (.inl (by omega))]; exact hA i j h1 h2 (by omega)
  · rw [L i h1 (by omega), L j (by omega) h3]; exact hB _ _ (by omega) (by omega) (by omega)
  · rw [R i h1 (by omega), R j (by omega) h3]; exact hA _ _ (by omega) (by omega) (by omega)
  · rw [hr.out (.inr (by omega)), hr.out (.inr (by omega))]; exact hB i j (by omega) h2 h3
  · by_cases hx : x < s
    · rw [hr.out (i := x) (.inl (by omega))]
      by_cases hy : y < e
      · rw [R y h3 hy]; exact sorted_le hS hA h1 (by omega) (by omega)
      · rw [hr.out (i := y) (.inr (by omega))]
        rcases c1 with c | c | c
        · omega
        · omega
        · exact SWO.le_trans hS (sorted_le hS hA (j := s - 1) h1 (by omega) (by omega)) (SWO.le_trans hS c (sorted_le hS hB (i := e) (by omega) (by omega) h4))
    · rw [L x (by omega) h2]
      by_cases hy : y < e
      · rw [R y h3 hy]
        rcases c2 with c | c | c
        · omega
        · omega
        · exact SWO.le_trans hS (sorted_le hS hB (j := e - 1) (by omega) (by omega) (by omega)) (SWO.le_trans hS c (sorted_le hS hA (i := s) (by omega) (by omega) (by omega)))
      · rw [hr.out (i := y) (.inr (by omega))]; exact sorted_le hS hB (by omega) (by omega) h4
/-- two rising pieces, the first not above the second -/
theorem sorted_join {d : Array α} {a m b : Nat} (hA : SortedIn lt a m d) (hB : SortedIn lt m b d) (hc : ∀ x y, a ≤ x → x < m → m ≤ y → y < b → lt d[y]! d[x]! = false) : SortedIn lt a b d := fun i j h1 h2 h3 => by
  by_cases h4 : j < m
  · exact hA i j h1 h2 h4
  · by_cases h5 : i < m
    · exact hc i j h1 h5 (by omega) h3
    · exact hB i j (by omega) h2 h3
/-- both halves permuted: nothing ahead of the middle is greater still -/
theorem cross_perm {d d' d'' : Array α} {a m b : Nat} (hb : b ≤ d.size) (hc : ∀ x y, a ≤ x → x < m → m ≤ y → y < b → lt d[y]! d[x]! = false) (h1 : PermIn a m d d') (h2 : PermIn m b d' d'') (ham : a ≤ m) (hmb : m ≤ b) :
    ∀ x y, a ≤ x → x < m → m ≤ y → y < b → lt d''[y]! d''[x]! = false := by
  intro x y hx1 hx2 hy1 hy2
  rw [h2.2.1 x (.inl hx2)]
  refine permIn_all d' d'' m b (fun z => lt z d'[x]! = false) (by rw [h1.1]; exact hb) h2 (fun i hi1 hi2 => ?_) y hy1 hy2
  rw [h1.2.1 i (.inr hi1)]
  exact permIn_all d d' a m (fun z => lt d[i]! z = false) (by omega) h1 (fun j hj1 hj2 => hc j i hj1 hj2 hi1 hi2) x hx1 hx2
/-- the first element put into the second piece -/
theorem merge_first (hS : SWO lt) {d d' : Array α} {a i b : Nat} (hB : SortedIn lt (a + 1) b d) (hi : a + 1 ≤ i) (hib : i ≤ b) (hr : Rot a (a + 1) i d d') (c1 : i = a + 1 ∨ lt d[i - 1]! d[a]! = true) (c2 : i = b ∨ lt d[i]! d[a]! = false) : SortedIn lt a b d' := by
  obtain ⟨-, h2, -, h4, h5⟩ := rot_glue hS (d := d) (d' := d') (a := a) (s := a) (m := a + 1) (e := i) (b := b) (sorted_none (by omega)) hB (Nat.le_refl _) (by omega) hi hib hr (.inl rfl) (c1.elim (fun c => .inr (.inl c)) fun c => .inr (.inr (hS.asymmA c)))
  refine sorted_join h2 (fun x y h6 h7 h8 => ?_) h5
  by_cases hx : i ≤ x
  · exact h4 x y hx h7 h8
  · have e : x = a + (i - (a + 1)) := by omega
    have := hr.right 0 (by omega)
    rw [Nat.add_zero, ← e, Nat.add_zero] at this
    rw [this, hr.out (.inr (by omega))]
    rcases c2 with c | c
    · omega
    · exact SWO.le_trans hS c (sorted_le hS hB (i := i) (by omega) (by omega) h8)
/-- the last element put into the first piece -/
theorem merge_last (hS : SWO lt) {d d' : Array α} {a i m : Nat} (hA : SortedIn lt a m d) (hi : a ≤ i) (him : i ≤ m) (hr : Rot i m (m + 1) d d') (c1 : i = a ∨ lt d[m]! d[i - 1]! = false) (c2 : i = m ∨ lt d[m]! d[i]! = true) : SortedIn lt a (m + 1) d' := by
  obtain ⟨h1, -, h3, -, h5⟩ := rot_glue hS (d := d) (d' := d') (a := a) (s := i) (m := m) (e := m + 1) (b := m + 1) hA (sorted_none (by omega)) hi him (by omega) (Nat.le_refl _) hr (.inr (.inl rfl)) (c2.elim .inl fun c => .inr (.inr (by simpa using hS.asymmA c)))
  refine sorted_join (m := i + (m + 1 - m)) (fun x y h6 h7 h8 => ?_) h3 h5
  by_cases hy : y < i
  · exact h1 x y h6 h7 hy
  · have e : y = i + 0 := by omega
    have := hr.left 0 (by omega)
    rw [← e, Nat.add_zero] at this
    rw [this, hr.out (.inl (by omega))]
    rcases c1 with c | c
    · omega
    · exact SWO.le_trans hS (sorted_le hS hA (j := i - 1) h6 (by omega) (by omega)) c

/-! What merging gives. -/
structure Merged (lt : α → α → Bool) (a b : Nat) (d d' : Array α) : Prop where
  perm : PermIn a b d d'
  sorted : SortedIn lt a b d'
theorem merged_of {d d1 d2 d3 : Array α} {a s m e b mid : Nat} (hS : SWO lt) (hb : b ≤ d.size) (hA : SortedIn lt a m d) (hB : SortedIn lt m b d) (has : a ≤ s) (hsm : s ≤ m) (hme : m ≤ e) (heb : e ≤ b) (hmid : s + (e - m) = mid) (hr : Rot s m e d d1)
    (c1 : s = a ∨ e = b ∨ lt d[e]! d[s - 1]! = false) (c2 : s = m ∨ e = m ∨ lt d[s]! d[e - 1]! = false)
    (h2 : (SortedIn lt a s d1 → SortedIn lt s mid d1 → Merged lt a mid d1 d2)) (h3 : (SortedIn lt mid e d2 → SortedIn lt e b d2 → Merged lt mid b d2 d3)) : Merged lt a b d d3 := by
  subst hmid
  obtain ⟨g1, g2, g3, g4, g5⟩ := rot_glue hS hA hB has hsm hme heb hr c1 c2
  have s1 := hr.size
  have m2 := h2 g1 g2
  have s2 := m2.perm.1
  have m3 := h3 (sorted_eq g3 fun i h1 h2 => m2.perm.2.1 i (.inr (by omega))) (sorted_eq g4 fun i h1 h2 => m2.perm.2.1 i (.inr (by omega)))
  refine ⟨permIn_trans _ _ _ _ _ (permIn_mono _ _ _ _ _ _ has heb hb hr.perm) (permIn_trans _ _ _ _ _ (permIn_mono _ _ _ _ _ _ (Nat.le_refl _) (by omega) (by omega) m2.perm) (permIn_mono _ _ _ _ _ _ (by omega) (Nat.le_refl _) (by omega) m3.perm)), ?_⟩
  exact sorted_join (sorted_eq m2.sorted fun i h1 h2 => m3.perm.2.1 i (.inl h2)) m3.sorted (cross_perm (by omega) g5 m2.perm m3.perm (by omega) (by omega))
/-- one side has at most one element or the other none -/
theorem merged_trivial_l {d : Array α} {a s mid : Nat} (h : ¬ (a < s ∧ s < mid)) (has : a ≤ s) (hsm : s ≤ mid) (h1 : SortedIn lt a s d) (h2 : SortedIn lt s mid d) : Merged lt a mid d d := by
  refine ⟨permIn_refl _ _ _, ?_⟩
  rcases Nat.lt_or_ge a s with c | c
  · have : s = mid := by omega
    subst this; exact h1
  · have : s = a := by omega
    subst this; exact h2

/-! Blocks of one length, each rising: the first pass and the passes of merging. -/
def Blk (lt : α → α → Bool) (s n a b : Nat) (d : Array α) : Prop := ∀ t, a ≤ t * s → t * s < b → SortedIn lt (t * s) (min (t * s + s) n) d
theorem blk_none (s n a : Nat) (d : Array α) : Blk lt s n a a d := fun t h1 h2 => by omega
theorem blk_keep {s n a b lo hi : Nat} {d d' : Array α} (h : Blk lt s n a b d) (hp : PermIn lo hi d d') (hc : ∀ t, a ≤ t * s → t * s < b → t * s + s ≤ lo ∨ hi ≤ t * s) : Blk lt s n a b d' := fun t h1 h2 => by
  refine sorted_eq (h t h1 h2) fun i h3 h4 => hp.2.1 i ?_
  rcases hc t h1 h2 with c | c
  · exact .inl (by omega)
  · exact .inr (by omega)
theorem mul_between {t u s : Nat} (hs : 0 < s) (h1 : u * s ≤ t * s) (h2 : t * s < u * s + s) : t = u := by
  have a1 : u ≤ t := Nat.le_of_mul_le_mul_right h1 hs
  have a2 : t < u + 1 := Nat.lt_of_mul_lt_mul_right (a := s) (by rw [Nat.succ_mul]; exact h2)
  omega
theorem blk_snoc {s n u : Nat} {d d' : Array α} (hs : 0 < s) (h : Blk lt s n 0 (u * s) d) {hi : Nat} (hhi : hi = min (u * s + s) n) (hp : PermIn (u * s) hi d d') (h2 : SortedIn lt (u * s) hi d') : Blk lt s n 0 (u * s + s) d' := by
  intro t h3 h4
  rcases Nat.lt_or_ge (t * s) (u * s) with c | c
  · have c2 : t < u := Nat.lt_of_mul_lt_mul_right c
    have c3 := Nat.mul_le_mul_right s (show t + 1 ≤ u from c2)
    rw [Nat.succ_mul] at c3
    refine sorted_eq (h t h3 c) fun i h5 h6 => hp.2.1 i (.inl (by omega))
  · have := mul_between hs c h4
    subst this
    rw [← hhi]; exact h2
theorem blk_all {s n u : Nat} {d d' : Array α} (hs : 0 < s) (h : Blk lt s n 0 (u * s) d) (hn : n ≤ u * s + s) (hp : PermIn (u * s) n d d') (h2 : SortedIn lt (u * s) n d') : Blk lt s n 0 n d' := by
  intro t h3 h4
  have := blk_snoc hs h (hi := n) (by omega) hp h2
  exact this t h3 (by omega)
/-- the pairs of blocks from a on are still blocks -/
theorem blk_later {s n a b : Nat} {d : Array α} (h : Blk lt s n a b d) {a' : Nat} (ha : a ≤ a') : Blk lt s n a' b d := fun t h1 h2 => h t (by omega) h2
theorem blk_at {s n a b t : Nat} {d : Array α} (h : Blk lt s n a b d) (h1 : a ≤ t * s) (h2 : t * s < b) {hi : Nat} (hh : hi = min (t * s + s) n) : SortedIn lt (t * s) hi d := by rw [hh]; exact h t h1 h2
theorem blk_done {s n : Nat} {d : Array α} (h : Blk lt s n 0 n d) (hn : n ≤ s) : SortedIn lt 0 n d := by
  rcases Nat.eq_zero_or_pos n with c | c
  · subst c; exact sorted_none (by omega)
  · have := h 0 (by omega) (by omega)
    rw [Nat.zero_mul, Nat.zero_add, Nat.min_eq_right hn] at this; exact this
theorem blk_snocA {s n u A : Nat} {d d' : Array α} (hs : 0 < s) (hA : A = u * s) (h : Blk lt s n 0 A d) {hi : Nat} (hhi : hi = min (A + s) n) (hm : Merged lt A hi d d') : Blk lt s n 0 (A + s) d' := by
  subst hA; exact blk_snoc hs h hhi hm.perm hm.sorted
theorem blk_allA {s n u A : Nat} {d d' : Array α} (hs : 0 < s) (hA : A = u * s) (h : Blk lt s n 0 A d) (hn : n ≤ A + s) (hm : Merged lt A n d d') : Blk lt s n 0 n d' := by
  subst hA; exact blk_all hs h hn hm.perm hm.sorted
theorem blk_atA {s n a b t A : Nat} {d : Array α} (h : Blk lt s n a b d) (hA : A = t * s) (h1 : a ≤ A) (h2 : A < b) {hi : Nat} (hh : hi = min (A + s) n) : SortedIn lt A hi d := by
  subst hA; exact blk_at h h1 h2 hh
theorem blk_step {s n A : Nat} {d d' : Array α} (h : Blk lt s n A n d) (hp : PermIn A (A + 2 * s) d d') : Blk lt s n (A + 2 * s) n d' :=
  blk_keep (blk_later h (by omega)) hp fun t h1 _ => .inr h1
theorem twice_mul {v s A : Nat} (hA : A = v * (2 * s)) : A = (2 * v) * s := by rw [hA, ← Nat.mul_assoc, Nat.mul_comm v 2]
theorem twice_mul1 {v s A : Nat} (hA : A = v * (2 * s)) : A + s = (2 * v + 1) * s := by rw [Nat.succ_mul, ← twice_mul hA]
theorem twice_succ {v s A : Nat} (hA : A = v * (2 * s)) : A + 2 * s = (v + 1) * (2 * s) := by rw [Nat.add_mul v 1, Nat.one_mul, ← hA]
end Go.Proofs.Ytdneffnnpjgnbab
