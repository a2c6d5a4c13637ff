/- Prices that prove the greatest worth: the program. -/
import Derived.Test.YthahkoclkjfkdaaBest
namespace Go.Proofs.Ythahkoclkjfkdaa
open Go.RowKit

def starP (ws : List (List Int)) (k : Nat) : Int := (tabAt ws 0).getD 0 0 - (tabAt ws 0).getD (2 ^ k) 0
def starsUp (ws : List (List Int)) (k : Nat) : List Int := (List.range k).map (starP ws)
def obsTo (row stars : List Int) : Nat → Int
  | 0 => 0
  | k + 1 => maxI (obsTo row stars k) (row.getD k 0 - stars.getD k 0)
def obsUp (ws : List (List Int)) (k : Nat) : List Int := (List.range k).map fun i => obsTo (ws.getD i []) (starsUp ws (wid ws)) (wid ws)
def priceI (ws : List (List Int)) : List Int × List Int × Int := if !worthsB ws then ([], [], 1) else (obsUp ws ws.length, starsUp ws (wid ws), 0)
theorem starsUp_len (ws : List (List Int)) (k : Nat) : (starsUp ws k).length = k := by simp [starsUp]
theorem obsUp_len (ws : List (List Int)) (k : Nat) : (obsUp ws k).length = k := by simp [obsUp]
theorem starsUp_snoc (ws : List (List Int)) (k : Nat) : starsUp ws (k + 1) = starsUp ws k ++ [starP ws k] := by unfold starsUp; rw [List.range_succ, List.map_append]; rfl
theorem obsUp_snoc (ws : List (List Int)) (k : Nat) : obsUp ws (k + 1) = obsUp ws k ++ [obsTo (ws.getD k []) (starsUp ws (wid ws)) (wid ws)] := by unfold obsUp; rw [List.range_succ, List.map_append]; rfl
theorem priceI_len (ws : List (List Int)) : (priceI ws).1.length ≤ 6 ∧ (priceI ws).2.1.length ≤ 8 := by
  unfold priceI
  rcases h : worthsB ws with _ | _
  · simp
  · have := worthsB_fine h
    simp only [Bool.not_true, Bool.false_eq_true, if_false, starsUp_len, obsUp_len]
    omega
theorem starsUp_get {ws : List (List Int)} {n k : Nat} (h : k < n) : (starsUp ws n)[k]? = some (starP ws k) := by unfold starsUp; rw [List.getElem?_map, List.getElem?_range h]; rfl
theorem getD_bd {xs : List Int} {m : Int} (h : ∀ x ∈ xs, 0 ≤ x ∧ x ≤ m) (hm : 0 ≤ m) (k : Nat) : 0 ≤ xs.getD k 0 ∧ xs.getD k 0 ≤ m := by
  cases e : xs[k]? with
  | none => simp [List.getD, e]; exact hm
  | some x => rw [getD_of e]; exact h x (List.mem_of_getElem? e)
theorem starP_bd {ws : List (List Int)} (h : worthsB ws = true) (k : Nat) : -6000 ≤ starP ws k ∧ starP ws k ≤ 6000 := by
  unfold starP
  have a := getD_bd (tabAt_bd h 0) (by omega) 0
  have b := getD_bd (tabAt_bd h 0) (by omega) (2 ^ k)
  omega
theorem obsTo_bd {row stars : List Int} (h : ∀ x ∈ row, 0 ≤ x ∧ x ≤ 1000) (hs : ∀ x ∈ stars, -6000 ≤ x ∧ x ≤ 6000) : ∀ k, 0 ≤ obsTo row stars k ∧ obsTo row stars k ≤ 7000
  | 0 => by simp [obsTo]
  | k + 1 => by
    have ih := obsTo_bd h hs k
    have a := getD_bd h (by omega) k
    have b : -6000 ≤ stars.getD k 0 ∧ stars.getD k 0 ≤ 6000 := by
      cases e : stars[k]? with
      | none => simp [List.getD, e]
      | some x => rw [getD_of e]; exact hs x (List.mem_of_getElem? e)
    unfold obsTo maxI
    split <;> omega
theorem starsUp_bd {ws : List (List Int)} (h : worthsB ws = true) (n : Nat) : ∀ x ∈ starsUp ws n, -6000 ≤ x ∧ x ≤ 6000 := by
  intro x hx
  unfold starsUp at hx
  obtain ⟨k, _, rfl⟩ := List.mem_map.1 hx
  exact starP_bd h k
/-- 'append(out, x..)' onto row i of the call's own, at a step of a region that draws its order -/
theorem step_append_mem {P : Program} {ops : Array Oper} {o : Oper} {a : Act} {Y : World} {K : Act → World → Prop} {Q : Exit → Act → World → Prop} {E : Prop} (hgd : o.guard = none) (s x : Operand) (t e : TypeId) (size bytes : Nat)
    (ho : o.op = .call { callee := .builtin .append, args := #[s, x], argTypes := #[t, t] }) (F : AppF P t e size bytes) (hsz : 0 < size)
    (W : World) (L : List Ent) (i : Nat) (v : Value) (n : Nat) (xs : List Value) (hi : L[i]? = some ⟨v, e, size, n, xs⟩) (m : Nat) (news : List Value) (hs : a.eval s = v) (b : Nat) (hx : a.eval x = .slice (some ⟨b, 0, none⟩) m m) (hl : news.length = m * size) (h1 : ∀ u ∈ news, u.oneCell' = true)
    (hnews : ∀ j u, news[j]? = some u → Y.cell? ⟨b, j, none⟩ = some u)
    (hM : Mem W Y L) (h63 : n + m ≤ 1000000000000) (hby : bytes ≤ 100)
    (h : ∀ v' g, Mem W (ext W g) (L.set i ⟨v', e, size, n + m, xs ++ news⟩) → K (a.put o.dst v') (ext W g)) :
    if Region.wanted o (yielded ops a.tmps) = true then Oper.wp P o a Y K Q else E := by
  have hw : Region.wanted o (yielded ops a.tmps) = true := by simp [Region.wanted, hgd]
  rw [if_pos hw]
  obtain ⟨hu, ii, z, hii, hz0, hz1, hz2, hz⟩ := F
  have hown := hM.own i _ hi
  dsimp only at hown
  obtain ⟨v', w', hr, h2, h3, h4, h5⟩ := run_append_own_at (P := P) Y W.heap.size t o.type e ii z size bytes hu hii hz0 hz1 hz2 hz hsz v n xs hown ⟨b, 0, none⟩ m m news hl (fun j u hu => by rw [addr_add, Nat.zero_add]; exact hnews j u hu) h1 (by unfold maxLen; omega)
    (Nat.le_trans (Nat.mul_le_mul h63 hby) (by decide)) hM.bel.size
  unfold Oper.wp execOp
  simp only [ho, resolve, invoke, builtin, Sem.run_bind, Sem.run_pure, Result.andThen_ok, List.map_toArray, List.map_cons, List.map_nil, hs, hx, hr]
  have hb : Bel W w' := Below.grown hM.bel h3 hM.bel.size (fun k hk => (hown.lt k hk).1)
  have hm := mem_put hM i hi ⟨v', e, size, n + m, xs ++ news⟩ h2 h3 hb (h5.imp id fun e b hb => by rw [e] at hb; cases hb; exact Nat.le_refl _)
  have e := ext_of hb
  have := h v' w'
  rw [e] at this
  exact this hm
/-- What a call hands back: two new slices of its own and a code. -/
def RetRow2 (e : TypeId) (xs ys : List Int) (code : Int) (w : World) (en : Ending) (w' : World) : Prop :=
  ∃ v1 v2 g, en = .returned (.tuple #[v1, v2, .int .i64 code]) ∧ w' = ext w g ∧ Mem w (ext w g) [⟨v1, e, 1, xs.length, celI.row xs⟩, ⟨v2, e, 1, ys.length, celI.row ys⟩]
theorem mem_nils {W w : World} (h : Bel W w) (e : TypeId) : Mem W w [⟨.slice none 0 0, e, 1, 0, []⟩, ⟨.slice none 0 0, e, 1, 0, []⟩] := by
  refine ⟨h, fun i r hi => ?_, fun i j r s hi hj _ b hb => ?_⟩
  · match i, hi with
    | 0, hi => cases hi; exact World.ownsRow_nil _ _ _ _
    | 1, hi => cases hi; exact World.ownsRow_nil _ _ _ _
    | i + 2, hi => simp at hi
  · match i, hi with
    | 0, hi => cases hi; simp [Value.ownBlock] at hb
    | 1, hi => cases hi; simp [Value.ownBlock] at hb
    | i + 2, hi => simp at hi
end Go.Proofs.Ythahkoclkjfkdaa
