/- What a set adds to what is had; no program in sight. -/
import Derived.Test.YtpfemaonipcbgaaPop
namespace Go.Proofs.Ytpfemaonipcbgaa
open Go.RowKit

theorem bits_andNot_u {a b : Nat} (ha : a < 2 ^ 64) (hb : b < 2 ^ 64) : bits .andNot .u64 (a : Int) (b : Int) = (((BitVec.ofNat 64 a &&& ~~~ BitVec.ofNat 64 b).toNat : Nat) : Int) := by
  have e : (BitVec.ofInt 64 (a : Int) &&& ~~~ BitVec.ofInt 64 (b : Int)).toNat = (BitVec.ofNat 64 a &&& ~~~ BitVec.ofNat 64 b).toNat := by rw [ofInt_nat, ofInt_nat]
  show IntKind.u64.wrap (((BitVec.ofInt 64 (a : Int) &&& ~~~ BitVec.ofInt 64 (b : Int)).toNat : Nat) : Int) = _
  rw [e, wrap_u _ (BitVec.isLt _)]
theorem mask_andNot (f h : Nat → Bool) {N : Nat} (hN : N ≤ 64) : bits .andNot .u64 ((maskOf f N : Nat) : Int) ((maskOf h N : Nat) : Int) = ((maskOf (fun i => f i && !h i) N : Nat) : Int) := by
  rw [bits_andNot_u (maskOf_lt64 f hN) (maskOf_lt64 h hN)]
  congr 1
  refine Nat.eq_of_testBit_eq fun i => ?_
  rw [maskOf_test, ← BitVec.getLsbD, BitVec.getLsbD_and, BitVec.getLsbD_not, BitVec.getLsbD_ofNat, BitVec.getLsbD_ofNat, maskOf_test, maskOf_test]
  by_cases h1 : i < N
  · have h2 : i < 64 := by omega
    simp [h1, h2]
  · simp [h1]
/-- how many more bins are shown -/
def gainN (f h : Nat → Bool) (N : Nat) : Nat := (idxL (fun i => f i && !h i) N).length
theorem gain_or (f h : Nat → Bool) : ∀ N, (idxL (fun i => h i || f i) N).length = (idxL h N).length + gainN f h N
  | 0 => rfl
  | N + 1 => by
    have ih := gain_or f h N
    unfold gainN at ih ⊢
    simp only [idxL, List.range_succ, List.filter_append, List.map_append, List.length_append, List.filter_cons, List.filter_nil] at ih ⊢
    rw [ih]
    rcases hf : f N <;> rcases hh : h N <;> simp <;> omega
/-- the first place of the greatest value above m; i: the place of the list's head, b: the best so far -/
def bestG {α : Type} (g : α → Nat) : Nat → Nat → Nat → List α → Nat × Nat
  | _, b, m, [] => (b, m)
  | i, b, m, x :: r => if m < g x then bestG g (i + 1) i (g x) r else bestG g (i + 1) b m r
theorem bestG_start {α : Type} (g : α → Nat) (x : α) (r : List α) : bestG g 0 0 0 (x :: r) = bestG g 1 0 (g x) r := by
  show (if 0 < g x then bestG g (0 + 1) 0 (g x) r else bestG g (0 + 1) 0 0 r) = _
  split
  · rfl
  · rw [show g x = 0 by omega]
theorem bestG_ge {α : Type} (g : α → Nat) : ∀ (l : List α) (i b m : Nat), m ≤ (bestG g i b m l).2 ∧ ∀ x ∈ l, g x ≤ (bestG g i b m l).2
  | [], _, _, m => ⟨Nat.le_refl _, fun x hx => by simp at hx⟩
  | y :: r, i, b, m => by
    unfold bestG
    split
    · obtain ⟨h1, h2⟩ := bestG_ge g r (i + 1) i (g y)
      refine ⟨by omega, fun x hx => ?_⟩
      rcases List.mem_cons.1 hx with rfl | hx
      · exact h1
      · exact h2 x hx
    · obtain ⟨h1, h2⟩ := bestG_ge g r (i + 1) b m
      refine ⟨h1, fun x hx => ?_⟩
      rcases List.mem_cons.1 hx with rfl | hx
      · omega
      · exact h2 x hx
theorem bestG_same {α : Type} (g : α → Nat) : ∀ (l : List α) (i b m : Nat), (bestG g i b m l).2 = m → (bestG g i b m l).1 = b
  | [], _, _, _, _ => rfl
  | y :: r, i, b, m, h => by
    unfold bestG at h ⊢
    split at h
    · rename_i hm
      have := (bestG_ge g r (i + 1) i (g y)).1
      omega
    · rename_i hm
      rw [if_neg hm]
      exact bestG_same g r (i + 1) b m h
theorem bestG_at {α : Type} (g : α → Nat) : ∀ (l : List α) (i b m : Nat), m < (bestG g i b m l).2 → ∃ k x, l[k]? = some x ∧ (bestG g i b m l).1 = i + k ∧ g x = (bestG g i b m l).2
  | [], _, _, m, h => by simp [bestG] at h
  | y :: r, i, b, m, h => by
    unfold bestG at h ⊢
    split at h
    · rename_i hm
      rw [if_pos hm]
      rcases Nat.lt_or_ge (g y) (bestG g (i + 1) i (g y) r).2 with c | c
      · obtain ⟨k, x, h1, h2, h3⟩ := bestG_at g r (i + 1) i (g y) c
        exact ⟨k + 1, x, by simpa using h1, by omega, h3⟩
      · have h0 := (bestG_ge g r (i + 1) i (g y)).1
        refine ⟨0, y, rfl, ?_, by omega⟩
        exact bestG_same g r (i + 1) i (g y) (by omega)
    · rename_i hm
      rw [if_neg hm]
      obtain ⟨k, x, h1, h2, h3⟩ := bestG_at g r (i + 1) b m h
      exact ⟨k + 1, x, by simpa using h1, by omega, h3⟩
theorem gain_pos {f h : Nat → Bool} {N i : Nat} (hi : i < N) (hf : f i = true) (hh : h i = false) : 0 < gainN f h N := by
  unfold gainN idxL
  rw [List.length_map]
  exact List.length_pos_of_mem (a := i) (by simp [hi, hf, hh])
theorem gain_zero {f h : Nat → Bool} {N : Nat} : gainN f h N = 0 ↔ ∀ i, i < N → f i = true → h i = true := by
  constructor
  · intro h0 i hi hf
    rcases hh : h i with _ | _
    · have := gain_pos (N := N) hi hf hh; omega
    · rfl
  · intro ha
    unfold gainN idxL
    rw [List.length_map, List.length_eq_zero_iff, List.filter_eq_nil_iff]
    intro i hi
    have hi' := List.mem_range.1 hi
    rcases hf : f i with _ | _
    · simp
    · simp [ha i hi' hf]
/-- the place of the window that shows the most new bins, and how many -/
def pickG (fs : List (Nat → Bool)) (h : Nat → Bool) (N : Nat) : Nat × Nat := bestG (fun f => gainN f h N) 0 0 0 fs
/-- a round always finds some window: all bins are shown by some -/
theorem pickG_pos {fs : List (Nat → Bool)} {h : Nat → Bool} {N : Nat} (ha : ∀ i, i < N → ∃ f ∈ fs, f i = true) (hn : ¬ ∀ i, i < N → h i = true) : 0 < (pickG fs h N).2 := by
  have : ∃ i, i < N ∧ h i = false := by
    rcases Classical.em (∃ i, i < N ∧ h i = false) with e | e
    · exact e
    · exfalso
      apply hn
      intro i hi
      rcases hh : h i with _ | _
      · exact absurd ⟨i, hi, hh⟩ e
      · rfl
  obtain ⟨i, hi, hh⟩ := this
  obtain ⟨f, hf, hfi⟩ := ha i hi
  exact Nat.lt_of_lt_of_le (gain_pos hi hfi hh) ((bestG_ge (fun f => gainN f h N) fs 0 0 0).2 f hf)
theorem pickG_at {fs : List (Nat → Bool)} {h : Nat → Bool} {N : Nat} (hp : 0 < (pickG fs h N).2) : ∃ f, fs[(pickG fs h N).1]? = some f ∧ gainN f h N = (pickG fs h N).2 := by
  obtain ⟨k, f, h1, h2, h3⟩ := bestG_at (fun f => gainN f h N) fs 0 0 0 hp
  refine ⟨f, ?_, h3⟩
  unfold pickG
  rw [h2, Nat.zero_add]; exact h1
/-- the taken ones, round by round; d: how many rounds may come -/
def greedyG (fs : List (Nat → Bool)) (N : Nat) : Nat → (Nat → Bool) → (Nat → Bool) → (Nat → Bool)
  | 0, _, t => t
  | d + 1, h, t => if maskOf h N = 2 ^ N - 1 then t else greedyG fs N d (fun i => h i || (fs.getD (pickG fs h N).1 (fun _ => false)) i) (fun i => t i || i == (pickG fs h N).1)
theorem greedyG_done {fs : List (Nat → Bool)} {N : Nat} {h t : Nat → Bool} (hd : maskOf h N = 2 ^ N - 1) (d : Nat) : greedyG fs N d h t = t := by
  cases d with
  | zero => rfl
  | succ d => simp [greedyG, hd]
theorem greedyG_step {fs : List (Nat → Bool)} {N : Nat} {h t f : Nat → Bool} (hd : maskOf h N ≠ 2 ^ N - 1) (hf : fs[(pickG fs h N).1]? = some f) (d : Nat) :
    greedyG fs N (d + 1) h t = greedyG fs N d (fun i => h i || f i) (fun i => t i || i == (pickG fs h N).1) := by
  rw [greedyG, if_neg hd, List.getD_eq_getElem?_getD, hf]; rfl
end Go.Proofs.Ytpfemaonipcbgaa
