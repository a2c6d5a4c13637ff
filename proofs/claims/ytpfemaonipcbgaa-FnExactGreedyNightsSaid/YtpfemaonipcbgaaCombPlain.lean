/- The first list of some windows that show all bins, in plain lists; no program in sight. -/
import Derived.Test.YtpfemaonipcbgaaBins
namespace Go.Proofs.Ytpfemaonipcbgaa
open Go.RowKit

/-- the first list of m more sets from the place k on that make up 'due' together with 'hv' -/
def comb (due : Nat) : Nat → Nat → Nat → List Nat → Option (List Int)
  | 0, _, hv, _ => if hv == due then some [] else none
  | _ + 1, _, _, [] => none
  | m + 1, k, hv, s :: r => match comb due m (k + 1) (hv ||| s) r with
    | some l => some ((k : Int) :: l)
    | none => comb due (m + 1) (k + 1) hv r
theorem comb_zero (due k hv : Nat) (r : List Nat) : comb due 0 k hv r = if hv == due then some [] else none := by cases r <;> rfl
theorem comb_nil (due m k hv : Nat) : comb due (m + 1) k hv [] = none := rfl
theorem comb_cons (due m k hv s : Nat) (r : List Nat) : comb due (m + 1) k hv (s :: r) = match comb due m (k + 1) (hv ||| s) r with
    | some l => some ((k : Int) :: l)
    | none => comb due (m + 1) (k + 1) hv r := rfl
theorem comb_hit {due m k hv : Nat} {sets : List Nat} {s : Nat} {l : List Int} (h : sets[k]? = some s) (hc : comb due m (k + 1) (hv ||| s) (sets.drop (k + 1)) = some l) : comb due (m + 1) k hv (sets.drop k) = some ((k : Int) :: l) := by
  rw [drop_cons_of h, comb_cons, hc]
theorem comb_miss {due m k hv : Nat} {sets : List Nat} {s : Nat} (h : sets[k]? = some s) (hc : comb due m (k + 1) (hv ||| s) (sets.drop (k + 1)) = none) : comb due (m + 1) k hv (sets.drop k) = comb due (m + 1) (k + 1) hv (sets.drop (k + 1)) := by
  rw [drop_cons_of h, comb_cons, hc]
theorem comb_short (due : Nat) : ∀ (r : List Nat) (m k hv : Nat), r.length < m → comb due m k hv r = none
  | [], 0, _, _, h => by simp at h
  | [], m + 1, _, _, _ => rfl
  | s :: r, 0, _, _, h => by simp at h
  | s :: r, m + 1, k, hv, h => by
    rw [comb_cons, comb_short due r m (k + 1) (hv ||| s) (by simp at h; omega), comb_short due r (m + 1) (k + 1) hv (by simp at h; omega)]
theorem comb_len {due : Nat} : ∀ {r : List Nat} {m k hv : Nat} {l : List Int}, comb due m k hv r = some l → l.length = m
  | [], 0, k, hv, l, h => by
    rw [comb_zero] at h
    split at h
    · cases h; rfl
    · cases h
  | [], m + 1, _, _, l, h => by cases h
  | s :: r, 0, k, hv, l, h => by
    rw [comb_zero] at h
    split at h
    · cases h; rfl
    · cases h
  | s :: r, m + 1, k, hv, l, h => by
    rw [comb_cons] at h
    cases hc : comb due m (k + 1) (hv ||| s) r with
    | some l' => rw [hc] at h; cases h; simp [comb_len hc]
    | none => rw [hc] at h; exact comb_len h
/-- all together -/
def orAll : List Nat → Nat
  | [] => 0
  | s :: r => s ||| orAll r
theorem comb_sub {due : Nat} : ∀ {r : List Nat} {m k hv : Nat} {l : List Int}, comb due m k hv r = some l → ∀ i, due.testBit i = true → (hv ||| orAll r).testBit i = true
  | [], 0, k, hv, l, h, i, hi => by
    rw [comb_zero] at h
    split at h
    · rename_i he; have := beq_iff_eq.1 he; subst this; simp [orAll, hi]
    · cases h
  | [], m + 1, _, _, l, h, _, _ => by cases h
  | s :: r, 0, k, hv, l, h, i, hi => by
    rw [comb_zero] at h
    split at h
    · rename_i he; have := beq_iff_eq.1 he; subst this; simp [hi]
    · cases h
  | s :: r, m + 1, k, hv, l, h, i, hi => by
    rw [comb_cons] at h
    cases hc : comb due m (k + 1) (hv ||| s) r with
    | some l' =>
      have := comb_sub hc i hi
      simp only [orAll, Nat.testBit_or] at this ⊢
      rcases h1 : hv.testBit i <;> rcases h2 : s.testBit i <;> simp_all
    | none =>
      rw [hc] at h
      have := comb_sub h i hi
      simp only [orAll, Nat.testBit_or] at this ⊢
      rcases h1 : hv.testBit i <;> rcases h2 : s.testBit i <;> simp_all
theorem comb_whole (due : Nat) : ∀ (r : List Nat) (k hv : Nat), (hv ||| orAll r) = due → (comb due r.length k hv r).isSome = true
  | [], k, hv, h => by
    rw [List.length_nil, comb_zero]; simp [orAll] at h; simp [h]
  | s :: r, k, hv, h => by
    rw [List.length_cons, comb_cons]
    have ih := comb_whole due r (k + 1) (hv ||| s) (by rw [← h]; simp only [orAll]; rw [Nat.or_assoc])
    obtain ⟨l, hl⟩ := Option.isSome_iff_exists.1 ih
    rw [hl]; rfl
/-- the first list of at least n sets; d: how many more may be tried -/
def firstC (due : Nat) (sets : List Nat) : Nat → Nat → List Int
  | 0, n => (comb due n 0 0 sets).getD []
  | d + 1, n => match comb due n 0 0 sets with
    | some l => l
    | none => firstC due sets d (n + 1)
theorem firstC_hit {due : Nat} {sets : List Nat} {d n : Nat} {l : List Int} (h : comb due n 0 0 sets = some l) : firstC due sets d n = l := by
  cases d <;> simp [firstC, h]
theorem firstC_miss {due : Nat} {sets : List Nat} {d n : Nat} (h : comb due n 0 0 sets = none) : firstC due sets (d + 1) n = firstC due sets d (n + 1) := by
  simp [firstC, h]
theorem firstC_len (due : Nat) (sets : List Nat) : ∀ d n, (firstC due sets d n).length ≤ d + n
  | 0, n => by
    unfold firstC
    cases h : comb due n 0 0 sets with
    | none => simp
    | some l => simp [comb_len h]
  | d + 1, n => by
    unfold firstC
    cases h : comb due n 0 0 sets with
    | none => have := firstC_len due sets d (n + 1); simp only; omega
    | some l => simp only; rw [comb_len h]; omega
theorem orAll_masks (e p n : Int) : ∀ (xs : List (Int × Int)), orAll (eachL e p n xs) = maskOf (allF e p n xs) n.toNat
  | [] => by simp [eachL, orAll]; rw [show allF e p n [] = fun _ => false from rfl, maskOf_none]
  | x :: r => by
    have ih := orAll_masks e p n r
    have e1 : eachL e p n (x :: r) = maskOf (shB e p n x) n.toNat :: eachL e p n r := rfl
    rw [e1, orAll, ih, maskOf_or]
    congr 1
theorem eachL_lt {e p n : Int} (hn : n.toNat ≤ 64) {xs : List (Int × Int)} : ∀ s ∈ eachL e p n xs, s < 2 ^ 64 := fun s hs => by
  unfold eachL at hs
  obtain ⟨x, _, rfl⟩ := List.mem_map.1 hs
  exact maskOf_lt64 _ hn
def fewI (e p n : Int) (xs : List (Int × Int)) : List Int × Int :=
  if codeB e p n xs ≠ 0 then ([], codeB e p n xs) else if 12 < xs.length then ([], 5) else if maskOf (allF e p n xs) n.toNat ≠ 2 ^ n.toNat - 1 then ([], 3)
  else (firstC (2 ^ n.toNat - 1) (eachL e p n xs) (xs.length - 1) 1, 0)
theorem fewI_len (e p n : Int) (xs : List (Int × Int)) : (fewI e p n xs).1.length ≤ 20 := by
  unfold fewI
  split
  · simp
  · split
    · simp
    · split
      · simp
      · have := firstC_len (2 ^ n.toNat - 1) (eachL e p n xs) (xs.length - 1) 1
        simp only; omega
end Go.Proofs.Ytpfemaonipcbgaa
