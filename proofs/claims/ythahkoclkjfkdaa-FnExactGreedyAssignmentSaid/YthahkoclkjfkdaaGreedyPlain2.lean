/- The greedy assignment in plain lists: what a scan keeps, why it ends; no program in sight. -/
import Derived.Test.YthahkoclkjfkdaaGreedyPlain
import Derived.Test.YthahkoclkjfkdaaTab
namespace Go.Proofs.Ythahkoclkjfkdaa
open Go.RowKit

def negs (out : List Int) : Nat := (out.filter fun x => decide (x < 0)).length
theorem negs_le (out : List Int) : negs out ≤ out.length := List.length_filter_le _ _
theorem negs_set : ∀ {out : List Int} {i : Nat} {y k : Int}, out[i]? = some y → y < 0 → 0 ≤ k → negs (out.set i k) + 1 = negs out
  | [], _, _, _, h, _, _ => by simp at h
  | z :: r, 0, y, k, h, hy, hk => by
    simp at h; subst h
    simp [negs, List.filter_cons, hy, show ¬ k < 0 by omega]
  | z :: r, i + 1, y, k, h, hy, hk => by
    have ih := @negs_set r i y k (by simpa using h) hy hk
    unfold negs at ih ⊢
    rw [List.set_cons_succ, List.filter_cons, List.filter_cons]
    split <;> (try simp only [List.length_cons]) <;> omega
def encO : Option (Nat × Nat × Int) → Int
  | none => -1
  | some (i, _, _) => i
def encS : Option (Nat × Nat × Int) → Int
  | none => -1
  | some (_, k, _) => k
def encM : Option (Nat × Nat × Int) → Int
  | none => 0
  | some (_, _, m) => m
theorem better_enc (st : Option (Nat × Nat × Int)) (x : Int) : better st x = decide (encM st < x) := by
  cases st with
  | none => rfl
  | some p => rfl
def StOk (ws : List (List Int)) (out : List Int) (n0 : Nat) (st : Option (Nat × Nat × Int)) : Prop :=
  st = none ∨ ∃ (i k : Nat) (m y : Int) (row : List Int), st = some (i, k, m) ∧ out[i]? = some y ∧ y < 0 ∧ ws[i]? = some row ∧ row[k]? = some m ∧ 0 < m ∧ i < n0 ∧ k < 8
theorem StOk.enc {ws : List (List Int)} {out : List Int} {n0 : Nat} {st : Option (Nat × Nat × Int)} (h : StOk ws out n0 st) : 0 ≤ encM st := by
  rcases h with rfl | ⟨i, k, m, y, row, rfl, _, _, _, _, h, _⟩
  · exact Int.le_refl _
  · exact Int.le_of_lt h
theorem scanRow_step {out row : List Int} {i k : Nat} {x : Int} {st : Option (Nat × Nat × Int)} (h : row[k]? = some x) :
    scanRow out i k st (row.drop k) = scanRow out i (k + 1) (if free out i k && better st x then some (i, k, x) else st) (row.drop (k + 1)) := by
  rw [drop_cons_of h, scanRow]
theorem scanRow_end {out row : List Int} {i k : Nat} {st : Option (Nat × Nat × Int)} (h : row.length ≤ k) : scanRow out i k st (row.drop k) = st := by rw [List.drop_of_length_le h]; rfl
theorem scanAll_step {out : List Int} {ws : List (List Int)} {i : Nat} {row : List Int} {st : Option (Nat × Nat × Int)} (h : ws[i]? = some row) :
    scanAll out i st (ws.drop i) = scanAll out (i + 1) (scanRow out i 0 st row) (ws.drop (i + 1)) := by rw [drop_cons_of h, scanAll]
theorem scanAll_end {out : List Int} {ws : List (List Int)} {i : Nat} {st : Option (Nat × Nat × Int)} (h : ws.length ≤ i) : scanAll out i st (ws.drop i) = st := by rw [List.drop_of_length_le h]; rfl
theorem free_of {out : List Int} {i k : Nat} {y : Int} (h : out[i]? = some y) : free out i k = (decide (y < 0) && !decide ((k : Int) ∈ out)) := by
  unfold free; rw [getD_of h]
theorem greedyF_stop {ws : List (List Int)} {m : Nat} {out : List Int} (h : scanAll out 0 none ws = none) : greedyF ws (m + 1) out = out := by rw [greedyF, h]
theorem greedyF_go {ws : List (List Int)} {m i k : Nat} {x : Int} {out : List Int} (h : scanAll out 0 none ws = some (i, k, x)) : greedyF ws (m + 1) out = greedyF ws m (out.set i (k : Int)) := by rw [greedyF, h]
theorem greedyI_len (ws : List (List Int)) : (greedyI ws).1.length ≤ 6 := by
  unfold greedyI
  rcases h : worthsB ws with _ | _
  · simp
  · simp only [Bool.not_true, Bool.false_eq_true, if_false]
    rw [greedyF_len, List.length_replicate]
    exact (worthsB_fine h).2.1
/-- how many numbers below 0 a block holds -/
def negW (wr : World) (b n : Nat) : Nat := ((List.range n).filter fun j => match wr.cell? ⟨b, j, none⟩ with
  | some (.int _ x) => decide (x < 0)
  | _ => false).length
theorem negW_eq {wr : World} {b n : Nat} {out : List Int} (hl : out.length = n) (h : ∀ (j : Nat) (x : Int), out[j]? = some x → wr.cell? ⟨b, j, none⟩ = some (.int .i64 x)) : negW wr b n = negs out := by
  subst hl
  unfold negW negs
  have e : out = (List.range out.length).map fun j => out.getD j 0 := by
    apply List.ext_getElem
    · simp
    · intro j h1 h2; simp [List.getD, List.getElem?_eq_getElem h1]
  conv => rhs; rw [e, List.filter_map, List.length_map]
  congr 1
  apply List.filter_congr
  intro j hj
  rw [List.mem_range] at hj
  have hx : out[j]? = some out[j] := List.getElem?_eq_getElem hj
  rw [h j _ hx]
  simp [List.getD, hx]
theorem mem_cells {W X : World} {L : List Ent} (h : Mem W X L) (i : Nat) {b n c n' : Nat} {e : TypeId} {size : Nat} {cs : List Value} (hi : L[i]? = some ⟨.slice (some ⟨b, 0, none⟩) n c, e, size, n', cs⟩) (h0 : 0 < n') :
    (∀ j u, cs[j]? = some u → X.cell? ⟨b, j, none⟩ = some u) ∧ (∀ j, X.frozen? ⟨b, j, none⟩ = false) ∧ W.heap.size ≤ b ∧ b < X.heap.size := by
  have ho := h.own i _ hi
  have hl := ho.lt
  have hc := fun g hg => ho.cells (g := g) hg
  have h9 := ho.2
  dsimp only at h9
  rcases h9 with ⟨h1, _⟩ | ⟨g, cap, cur, h1, h2, h3, h4, h5, h6⟩
  · cases h1
  · simp only [Value.slice.injEq, Option.some.injEq, Addr.mk.injEq] at h1
    obtain ⟨⟨rfl, _, _⟩, _⟩ := h1
    refine ⟨fun j u hu => ?_, fun j => frozen_of_row _ b j cur e h3, h2, (hl b rfl).2⟩
    have := hc b rfl j u hu
    rw [addr_add, Nat.zero_add] at this; exact this
theorem rowI_at {out : List Int} {j : Nat} {x : Int} (h : out[j]? = some x) : (celI.row out)[j]? = some (.int .i64 x) := by
  have := celI.row_get out j x 0 (.int .i64 x) h rfl
  simpa [celI] using this
end Go.Proofs.Ythahkoclkjfkdaa
