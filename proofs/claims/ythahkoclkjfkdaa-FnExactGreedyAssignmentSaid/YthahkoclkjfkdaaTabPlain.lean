/- The table of the greatest worths, in plain lists; no program in sight. -/
import Derived.Test.YthahkoclkjfkdaaWorthPlain
namespace Go.Proofs.Ythahkoclkjfkdaa
open Go.RowKit

/-- the greatest worth with the first k stars, those of the set told left out -/
def bestTo (ws nx : List Int) (told : Nat) : Nat → Int
  | 0 => nx.getD told 0
  | k + 1 => if told.testBit k then bestTo ws nx told k else maxI (bestTo ws nx told k) (ws.getD k 0 + nx.getD (told ||| 2 ^ k) 0)
def tabRow (s : Nat) (ws nx : List Int) : List Int := (List.range (2 ^ s)).map fun t => bestTo ws nx t s
def tabHd (s : Nat) : List (List Int) → List Int
  | [] => List.replicate (2 ^ s) 0
  | ws :: r => tabRow s ws (tabHd s r)
def tabAt (xss : List (List Int)) (i : Nat) : List Int := tabHd (wid xss) (xss.drop i)
def tabL (xss : List (List Int)) : List (List Int) := (List.range (xss.length + 1)).map (tabAt xss)
theorem tabHd_len (s : Nat) : ∀ xss, (tabHd s xss).length = 2 ^ s
  | [] => by simp [tabHd]
  | ws :: r => by simp [tabHd, tabRow]
theorem tabAt_len (xss : List (List Int)) (i : Nat) : (tabAt xss i).length = 2 ^ wid xss := tabHd_len _ _
theorem tabAt_end (xss : List (List Int)) : tabAt xss xss.length = List.replicate (2 ^ wid xss) 0 := by unfold tabAt; rw [List.drop_length]; rfl
theorem tabAt_step {xss : List (List Int)} {i : Nat} {ws : List Int} (h : xss[i]? = some ws) : tabAt xss i = tabRow (wid xss) ws (tabAt xss (i + 1)) := by
  unfold tabAt; rw [drop_cons_of h]; rfl
theorem bestTo_bd {ws nx : List Int} {m : Int} (hw : ∀ x ∈ ws, 0 ≤ x ∧ x ≤ 1000) (hn : ∀ x ∈ nx, 0 ≤ x ∧ x ≤ m) (hm : 0 ≤ m) (told : Nat) : ∀ k, 0 ≤ bestTo ws nx told k ∧ bestTo ws nx told k ≤ m + 1000
  | 0 => by
    unfold bestTo
    cases h : nx[told]? with
    | none => simp [List.getD, h]; omega
    | some x => rw [getD_of h]; have := hn x (List.mem_of_getElem? h); omega
  | k + 1 => by
    have ih := bestTo_bd hw hn hm told k
    unfold bestTo
    split
    · exact ih
    · unfold maxI
      have a1 : 0 ≤ ws.getD k 0 ∧ ws.getD k 0 ≤ 1000 := by
        cases h : ws[k]? with
        | none => simp [List.getD, h]
        | some x => rw [getD_of h]; exact hw x (List.mem_of_getElem? h)
      have a2 : 0 ≤ nx.getD (told ||| 2 ^ k) 0 ∧ nx.getD (told ||| 2 ^ k) 0 ≤ m := by
        cases h : nx[told ||| 2 ^ k]? with
        | none => simp [List.getD, h]; omega
        | some x => rw [getD_of h]; exact hn x (List.mem_of_getElem? h)
      omega
theorem tabHd_bd (s : Nat) : ∀ {xss : List (List Int)}, (∀ xs ∈ xss, ∀ x ∈ xs, 0 ≤ x ∧ x ≤ 1000) → ∀ x ∈ tabHd s xss, 0 ≤ x ∧ x ≤ 1000 * (xss.length : Int)
  | [], _, x, hx => by
    unfold tabHd at hx
    rw [List.mem_replicate] at hx
    rw [hx.2]; simp
  | ws :: r, h, x, hx => by
    unfold tabHd tabRow at hx
    obtain ⟨t, _, rfl⟩ := List.mem_map.1 hx
    have ih := @tabHd_bd s r (fun xs hxs => h xs (List.mem_cons_of_mem _ hxs))
    have := bestTo_bd (h ws List.mem_cons_self) ih (by omega) t s
    simp only [List.length_cons, Int.natCast_add, Int.natCast_one]; omega
theorem tabAt_bd {xss : List (List Int)} (h : worthsB xss = true) (i : Nat) : ∀ x ∈ tabAt xss i, 0 ≤ x ∧ x ≤ 6000 := by
  obtain ⟨_, h2, _, _, h5⟩ := worthsB_fine h
  intro x hx
  have := tabHd_bd (wid xss) (xss := xss.drop i) (fun xs hxs => (h5 xs (List.mem_of_mem_drop hxs)).2) x hx
  rw [List.length_drop] at this; omega
theorem tabL_get (xss : List (List Int)) {i : Nat} (h : i ≤ xss.length) : (tabL xss)[i]? = some (tabAt xss i) := by
  unfold tabL; rw [List.getElem?_map, List.getElem?_range (by omega)]; rfl
theorem tabL_len (xss : List (List Int)) : (tabL xss).length = xss.length + 1 := by simp [tabL]

/-! bits of sets of at most eight stars -/
theorem or_lt {t k s : Nat} (ht : t < 2 ^ s) (hk : k < s) : t ||| 2 ^ k < 2 ^ s := Nat.or_lt_two_pow ht (Nat.pow_lt_pow_right (by omega) hk)
theorem pow_le8 {s : Nat} (h : s ≤ 8) : 2 ^ s ≤ 256 := by
  have : 2 ^ s ≤ 2 ^ 8 := Nat.pow_le_pow_right (by omega) h
  simpa using this
theorem ofInt64 (a : Nat) (ha : a < 9223372036854775808) : (BitVec.ofInt 64 (a : Int)).toNat = a := by
  rw [BitVec.ofInt_natCast, BitVec.toNat_ofNat]; exact Nat.mod_eq_of_lt (by omega)
theorem bits_and_nat (a b : Nat) (ha : a < 9223372036854775808) (hb : b < 9223372036854775808) : bits .and .i64 (a : Int) (b : Int) = ((a &&& b : Nat) : Int) := by
  have hx : a &&& b < 2 ^ 63 := Nat.and_lt_two_pow _ (by omega)
  show IntKind.i64.wrap ((BitVec.ofInt 64 (a : Int) &&& BitVec.ofInt 64 (b : Int)).toNat : Int) = _
  rw [BitVec.toNat_and, ofInt64 a ha, ofInt64 b hb]
  exact IntWalk.i64_in _ (by omega)
theorem bits_and1 (n : Nat) (h : n < 9223372036854775808) : bits .and .i64 (n : Int) 1 = ((n % 2 : Nat) : Int) := by
  have := bits_and_nat n 1 h (by omega)
  rw [Nat.and_one_is_mod] at this; exact this
theorem bits_or_nat (a b : Nat) (ha : a < 9223372036854775808) (hb : b < 9223372036854775808) : bits .or .i64 (a : Int) (b : Int) = ((a ||| b : Nat) : Int) := by
  have hx : a ||| b < 2 ^ 63 := Nat.or_lt_two_pow (by omega) (by omega)
  show IntKind.i64.wrap ((BitVec.ofInt 64 (a : Int) ||| BitVec.ofInt 64 (b : Int)).toNat : Int) = _
  rw [BitVec.toNat_or, ofInt64 a ha, ofInt64 b hb]
  exact IntWalk.i64_in _ (by omega)
theorem shr_bit {t k : Nat} (hk : k < 64) : (t : Int) / 2 ^ min (k : Int).toNat IntKind.i64.bits = ((t >>> k : Nat) : Int) := by
  have e : min (k : Int).toNat IntKind.i64.bits = k := by simp [IntKind.bits]; omega
  rw [e, Nat.shiftRight_eq_div_pow]; simp
theorem shl_bit {k : Nat} (hk : k < 62) : IntKind.i64.wrap (1 * 2 ^ min (k : Int).toNat IntKind.i64.bits) = ((2 ^ k : Nat) : Int) := by
  have e : min (k : Int).toNat IntKind.i64.bits = k := by simp [IntKind.bits]; omega
  have h2 : 2 ^ k < 2 ^ 62 := Nat.pow_lt_pow_right (by omega) hk
  rw [e, Int.one_mul, show (2 : Int) ^ k = ((2 ^ k : Nat) : Int) by simp]
  generalize 2 ^ k = z at *
  exact IntWalk.i64_in _ (by omega)
theorem pow64 {k : Nat} (hk : k < 62) : wrap64 ((2 : Int) ^ k) = ((2 ^ k : Nat) : Int) := by
  have h2 : 2 ^ k < 2 ^ 62 := Nat.pow_lt_pow_right (by omega) hk
  rw [show (2 : Int) ^ k = ((2 ^ k : Nat) : Int) by simp]
  generalize 2 ^ k = z at *
  unfold wrap64; omega
theorem bit_zero (t k : Nat) : (((t >>> k % 2 : Nat) : Int) == 0) = !t.testBit k := by
  rw [Nat.testBit, Nat.and_comm, Nat.and_one_is_mod]
  have : t >>> k % 2 = 0 ∨ t >>> k % 2 = 1 := by omega
  rcases this with h | h <;> simp [h]
theorem bit_test {t k : Nat} (ht : t < 9223372036854775808) : (bits .and .i64 ((t : Int) / 2 ^ k) 1 == 0) = !t.testBit k := by
  have e : (t : Int) / 2 ^ k = ((t >>> k : Nat) : Int) := by rw [Nat.shiftRight_eq_div_pow]; simp
  have h2 : t >>> k < 9223372036854775808 := Nat.lt_of_le_of_lt (Nat.shiftRight_le _ _) ht
  rw [e, bits_and1 _ h2, bit_zero]
/-! a row under way -/
def doneRow (s : Nat) (ws nx : List Int) (told : Nat) : List Int := (List.range told).map fun t => bestTo ws nx t s
def midRow (s : Nat) (ws nx : List Int) (told k : Nat) : List Int := doneRow s ws nx told ++ bestTo ws nx told k :: nx.drop (told + 1)
theorem doneRow_len (s : Nat) (ws nx : List Int) (told : Nat) : (doneRow s ws nx told).length = told := by simp [doneRow]
theorem midRow_start {s : Nat} {ws nx : List Int} {told : Nat} (h : told < nx.length) : doneRow s ws nx told ++ nx.drop told = midRow s ws nx told 0 := by
  unfold midRow bestTo
  rw [List.drop_eq_getElem_cons h, getD_of (List.getElem?_eq_getElem h)]
theorem midRow_end (s : Nat) (ws nx : List Int) (told : Nat) : midRow s ws nx told s = doneRow s ws nx (told + 1) ++ nx.drop (told + 1) := by
  unfold midRow doneRow; rw [List.range_succ, List.map_append]; simp
theorem midRow_at (s : Nat) (ws nx : List Int) (told k : Nat) : (midRow s ws nx told k)[told]? = some (bestTo ws nx told k) := by
  unfold midRow; rw [List.getElem?_append_right (by rw [doneRow_len]; exact Nat.le_refl _), doneRow_len, Nat.sub_self]; rfl
theorem midRow_set (s : Nat) (ws nx : List Int) (told k : Nat) : (midRow s ws nx told k).set told (bestTo ws nx told (k + 1)) = midRow s ws nx told (k + 1) := by
  unfold midRow; rw [List.set_append_right _ _ (by rw [doneRow_len]; exact Nat.le_refl _), doneRow_len, Nat.sub_self]; rfl
theorem midRow_len {s : Nat} {ws nx : List Int} {told k : Nat} (h : told < nx.length) : (midRow s ws nx told k).length = nx.length := by
  unfold midRow; rw [List.length_append, doneRow_len, List.length_cons, List.length_drop]; omega
theorem doneRow_zero (s : Nat) (ws nx : List Int) : doneRow s ws nx 0 ++ nx.drop 0 = nx := by simp [doneRow]
theorem doneRow_all (s : Nat) (ws nx : List Int) : doneRow s ws nx (2 ^ s) = tabRow s ws nx := rfl
theorem bestTo_off {ws nx : List Int} {told k : Nat} (h : told.testBit k = true) : bestTo ws nx told (k + 1) = bestTo ws nx told k := by rw [bestTo, if_pos h]
theorem bestTo_on {ws nx : List Int} {told k : Nat} {x y : Int} (h : told.testBit k = false) (hx : ws[k]? = some x) (hy : nx[told ||| 2 ^ k]? = some y) : bestTo ws nx told (k + 1) = maxI (bestTo ws nx told k) (x + y) := by
  rw [bestTo, if_neg (by simp [h]), getD_of hx, getD_of hy]
theorem rowI_set (xs : List Int) (j : Nat) (x : Int) : (celI.row xs).set j (.int .i64 x) = celI.row (xs.set j x) := by
  have e : ∀ ys : List Int, celI.row ys = ys.map (Value.int .i64) := fun ys => by unfold Cel.row celI; simp [List.flatMap_singleton']; induction ys <;> simp_all
  rw [e, e, List.map_set]
theorem rowI_get {xs : List Int} {j : Nat} {x : Int} (h : xs[j]? = some x) : (celI.row xs)[j]? = some (.int .i64 x) := by
  have := Cel.row_get celI xs j x 0 (.int .i64 x) h rfl
  simpa [celI] using this
theorem rowI_len (xs : List Int) : (celI.row xs).length = xs.length := by rw [Cel.row_len]; simp [celI]
theorem rowI_inv {xs : List Int} {j : Nat} {u : Value} (h : (celI.row xs)[j]? = some u) : ∃ x, xs[j]? = some x ∧ u = .int .i64 x := by
  have hj : j < xs.length := by have := (List.getElem?_eq_some_iff.1 h).1; rw [rowI_len] at this; exact this
  have e := List.getElem?_eq_getElem hj
  rw [rowI_get e] at h
  exact ⟨_, e, (Option.some.inj h).symm⟩
theorem rowI_zero (n : Nat) : celI.row (List.replicate n 0) = List.replicate n (.int .i64 0) := by
  induction n with
  | zero => rfl
  | succ n ih => rw [List.replicate_succ, List.replicate_succ, ← ih]; rfl
end Go.Proofs.Ythahkoclkjfkdaa
