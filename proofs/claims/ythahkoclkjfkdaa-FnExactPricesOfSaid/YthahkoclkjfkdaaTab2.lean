/- A table under way: its outer slice, the rows that are done, the row that is being written; no program in sight. -/
import Derived.Test.YthahkoclkjfkdaaTab
namespace Go.Proofs.Ythahkoclkjfkdaa
open Go.RowKit

def outE (T : TypeId) (w : World) (n : Nat) (oc : List Value) : Ent := ⟨.slice (some ⟨w.heap.size, 0, none⟩) n n, T, 1, n, oc⟩
def rowE (E : TypeId) (b c : Nat) (xs : List Int) : Ent := ⟨.slice (some ⟨b, 0, none⟩) xs.length c, E, 1, xs.length, celI.row xs⟩
/-- the rows from i on are done -/
def TabR (T E : TypeId) (w wr : World) (xss : List (List Int)) (i : Nat) : Prop :=
  ∃ (L : List Ent) (oc : List Value), Mem w wr L ∧ L[0]? = some (outE T w (xss.length + 1) oc) ∧ oc.length = xss.length + 1 ∧
    ∀ j, i ≤ j → j ≤ xss.length → ∃ q b c, 1 ≤ q ∧ L[q]? = some (rowE E b c (tabAt xss j)) ∧ oc[j]? = some (.slice (some ⟨b, 0, none⟩) (tabAt xss j).length c)
/-- the rows behind p are done, row p holds cur -/
def TabM (T E : TypeId) (w wr : World) (xss : List (List Int)) (p : Nat) (cur : List Int) : Prop :=
  ∃ (L : List Ent) (oc : List Value) (q b c : Nat), Mem w wr L ∧ L[0]? = some (outE T w (xss.length + 1) oc) ∧ oc.length = xss.length + 1 ∧ p ≤ xss.length ∧
    1 ≤ q ∧ L[q]? = some (rowE E b c cur) ∧ oc[p]? = some (.slice (some ⟨b, 0, none⟩) cur.length c) ∧
    ∀ j, p + 1 ≤ j → j ≤ xss.length → ∃ q' b' c', 1 ≤ q' ∧ q' ≠ q ∧ L[q']? = some (rowE E b' c' (tabAt xss j)) ∧ oc[j]? = some (.slice (some ⟨b', 0, none⟩) (tabAt xss j).length c')
theorem TabR.bel {T E : TypeId} {w wr x : World} {xss : List (List Int)} {i : Nat} (h : TabR T E w wr xss i) (hb : Bel wr x) : TabR T E w x xss i := by
  obtain ⟨L, oc, hM, h⟩ := h
  exact ⟨L, oc, mem_bel hM hb, h⟩
theorem TabM.bel {T E : TypeId} {w wr x : World} {xss : List (List Int)} {p : Nat} {cur : List Int} (h : TabM T E w wr xss p cur) (hb : Bel wr x) : TabM T E w x xss p cur := by
  obtain ⟨L, oc, q, b, c, hM, h⟩ := h
  exact ⟨L, oc, q, b, c, mem_bel hM hb, h⟩
theorem TabR.below {T E : TypeId} {w wr : World} {xss : List (List Int)} {i : Nat} (h : TabR T E w wr xss i) : Bel w wr := by obtain ⟨L, oc, hM, _⟩ := h; exact hM.bel
theorem TabM.below {T E : TypeId} {w wr : World} {xss : List (List Int)} {p : Nat} {cur : List Int} (h : TabM T E w wr xss p cur) : Bel w wr := by obtain ⟨L, oc, q, b, c, hM, _⟩ := h; exact hM.bel
theorem TabM.r {T E : TypeId} {w wr : World} {xss : List (List Int)} {p : Nat} (h : TabM T E w wr xss p (tabAt xss p)) : TabR T E w wr xss p := by
  obtain ⟨L, oc, q, b, c, hM, h0, hoc, hp, hq, hL, hocp, hrest⟩ := h
  refine ⟨L, oc, hM, h0, hoc, fun j h1 h2 => ?_⟩
  rcases Nat.lt_or_ge p j with h | h
  · obtain ⟨q', b', c', k1, _, k3, k4⟩ := hrest j h h2
    exact ⟨q', b', c', k1, k3, k4⟩
  · obtain rfl : j = p := by omega
    exact ⟨q, b, c, hq, hL, hocp⟩
theorem own_rd {w : World} {B : Nat} {E : TypeId} {b c : Nat} {xs : List Int} (h : w.ownsRow B (rowE E b c xs).e (rowE E b c xs).size (rowE E b c xs).v (rowE E b c xs).n (rowE E b c xs).cells) : Rd celI w (.slice (some ⟨b, 0, none⟩) xs.length c) xs :=
  rd_of_row (C := celI) h
theorem TabR.rd {T E : TypeId} {w wr : World} {xss : List (List Int)} (h : TabR T E w wr xss 0) : RdN wr (.slice (some ⟨w.heap.size, 0, none⟩) (xss.length + 1) (xss.length + 1)) (tabL xss) := by
  obtain ⟨L, oc, hM, h0, hoc, hrest⟩ := h
  have ho : wr.ownsRow w.heap.size T 1 (.slice (some ⟨w.heap.size, 0, none⟩) (xss.length + 1) (xss.length + 1)) (xss.length + 1) oc := hM.own 0 _ h0
  obtain ⟨a, c, hv, hle, hcap⟩ := own_len ho
  simp only [Value.slice.injEq] at hv
  refine ⟨_, _, _, rfl, by rw [tabL_len], Nat.le_refl _, by omega, fun _ => ?_⟩
  refine ⟨w.heap.size, 0, rfl, (ho.lt _ rfl).2, fun i xs hi => ?_⟩
  have hi' : i ≤ xss.length := by have := (List.getElem?_eq_some_iff.1 hi).1; rw [tabL_len] at this; omega
  rw [tabL_get xss hi'] at hi
  cases hi
  obtain ⟨q, b, c', hq, hL, hoi⟩ := hrest i (Nat.zero_le _) hi'
  have hr := own_rd (hM.own q _ hL)
  obtain ⟨a2, c2, e1, e2, e3, e4⟩ := hr
  refine ⟨some ⟨b, 0, none⟩, _, c', ?_, ⟨rfl, ?_, ?_, ?_⟩⟩
  · have := ho.cells rfl i _ hoi
    rw [addr_add] at this; exact this
  · simp only [Value.slice.injEq] at e1; omega
  · simp only [Value.slice.injEq] at e1; omega
  · simp only [Value.slice.injEq] at e1; rw [e1.1]; exact e4
/-- row p is put: a copy that was just made -/
theorem TabR.down {T E : TypeId} {w x : World} {xss : List (List Int)} {p : Nat} {L : List Ent} {oc : List Value} {b c : Nat} {cur : List Int} (hM : Mem w x (L ++ [rowE E b c cur])) (h0 : L[0]? = some (outE T w (xss.length + 1) oc)) (hoc : oc.length = xss.length + 1)
    (hrest : ∀ j, p + 1 ≤ j → j ≤ xss.length → ∃ q b c, 1 ≤ q ∧ L[q]? = some (rowE E b c (tabAt xss j)) ∧ oc[j]? = some (.slice (some ⟨b, 0, none⟩) (tabAt xss j).length c)) (hp : p ≤ xss.length) :
    TabM T E w (x.setCell ⟨w.heap.size, p, none⟩ (.slice (some ⟨b, 0, none⟩) cur.length c)) xss p cur := by
  have hl0 : 0 < L.length := (List.getElem?_eq_some_iff.1 h0).1
  have h0' : (L ++ [rowE E b c cur])[0]? = some ⟨.slice (some ⟨w.heap.size, 0, none⟩) (xss.length + 1) (xss.length + 1), T, 1, xss.length + 1, oc⟩ := by rw [List.getElem?_append_left hl0]; exact h0
  have hm := mem_store hM 0 h0' p (.slice (some ⟨b, 0, none⟩) cur.length c)
  refine ⟨_, oc.set p (.slice (some ⟨b, 0, none⟩) cur.length c), L.length, b, c, hm, ?_, by rw [List.length_set]; exact hoc, hp, by omega, ?_, ?_, fun j h1 h2 => ?_⟩
  · rw [List.getElem?_set_self (by rw [List.length_append]; omega)]; rfl
  · rw [List.getElem?_set_ne (by omega), List.getElem?_append_right (Nat.le_refl _), Nat.sub_self]; rfl
  · rw [List.getElem?_set_self (by omega)]
  · obtain ⟨q, b', c', k1, k2, k3⟩ := hrest j h1 h2
    have hql : q < L.length := (List.getElem?_eq_some_iff.1 k2).1
    refine ⟨q, b', c', k1, by omega, ?_, ?_⟩
    · rw [List.getElem?_set_ne (by omega), List.getElem?_append_left hql]; exact k2
    · rw [List.getElem?_set_ne (by omega)]; exact k3
/-- what a walk must know of a table under way -/
theorem TabM.facts {T E : TypeId} {w g : World} {xss : List (List Int)} {p : Nat} {cur : List Int} (h : TabM T E w (ext w g) xss p cur) (hp : p + 1 ≤ xss.length) (hc : 0 < cur.length) :
    ∃ b c b1 c1, farCell w g w.heap.size p = some (.slice (some ⟨b, 0, none⟩) cur.length c) ∧ farCell w g w.heap.size (p + 1) = some (.slice (some ⟨b1, 0, none⟩) (tabAt xss (p + 1)).length c1) ∧
      (∀ j x, cur[j]? = some x → farCell w g b j = some (.int .i64 x)) ∧ (∀ j x, (tabAt xss (p + 1))[j]? = some x → farCell w g b1 j = some (.int .i64 x)) ∧ (∀ j, farMark w g b j = false) ∧
      ¬ b < w.heap.size ∧ ¬ b1 < w.heap.size ∧ b < (ext w g).heap.size ∧ b1 < (ext w g).heap.size ∧ w.heap.size < (ext w g).heap.size ∧
      (∀ X t x, Bel (ext w g) X → TabM T E w (X.setCell ⟨b, t, none⟩ (.int .i64 x)) xss p (cur.set t x)) := by
  obtain ⟨L, oc, q, b, c, hM, h0, hoc, hpp, hq, hL, hocp, hrest⟩ := h
  obtain ⟨q1, b1, c1, k1, k2, k3, k4⟩ := hrest (p + 1) (Nat.le_refl _) hp
  obtain ⟨o1, o2, o3, o4, o5⟩ := mem_far hM 0 h0 (by omega)
  obtain ⟨r1, r2, r3, r4, r5⟩ := mem_far hM q hL hc
  obtain ⟨s1, s2, s3, s4, s5⟩ := mem_far hM q1 k3 (by rw [tabAt_len]; exact Nat.two_pow_pos _)
  refine ⟨b, c, b1, c1, o1 _ _ hocp, o1 _ _ k4, fun j x hj => r1 _ _ (rowI_get hj), fun j x hj => s1 _ _ (rowI_get hj), r2, r5, s5, r4, s4, o4, fun X t x hX => ?_⟩
  have hm := mem_store (mem_bel hM hX) q hL t (.int .i64 x)
  rw [rowI_set] at hm
  refine ⟨_, oc, q, b, c, hm, ?_, hoc, hpp, hq, ?_, ?_, fun j h1 h2 => ?_⟩
  · rw [List.getElem?_set_ne (by omega)]; exact h0
  · rw [List.getElem?_set_self (List.getElem?_eq_some_iff.1 hL).1]; unfold rowE; rw [List.length_set]
  · rw [List.length_set]; exact hocp
  · obtain ⟨q', b', c', m1, m2, m3, m4⟩ := hrest j h1 h2
    exact ⟨q', b', c', m1, m2, by rw [List.getElem?_set_ne (by omega)]; exact m3, m4⟩
theorem ent_zero {E : TypeId} {B S : Nat} {xss : List (List Int)} (hS : S = 2 ^ wid xss) : (⟨.slice (some ⟨B, 0, none⟩) S S, E, 1, S, List.replicate S (.int .i64 0)⟩ : Ent) = rowE E B S (tabAt xss xss.length) := by
  unfold rowE; rw [tabAt_len, tabAt_end, rowI_zero, hS]
theorem TabR.first {T E : TypeId} {w x : World} {xss : List (List Int)} {n S B : Nat} {oc : List Value} (hn : n = xss.length) (hS : S = 2 ^ wid xss)
    (hM : Mem w x ([] ++ [⟨.slice (some ⟨w.heap.size, 0, none⟩) (n + 1) (n + 1), T, 1, n + 1, oc⟩] ++ [⟨.slice (some ⟨B, 0, none⟩) S S, E, 1, S, List.replicate S (.int .i64 0)⟩])) (hoc : oc.length = n + 1) :
    TabR T E w (x.setCell ⟨w.heap.size, n, none⟩ (.slice (some ⟨B, 0, none⟩) S S)) xss n := by
  rw [ent_zero hS] at hM
  subst hn
  have := TabR.down (p := xss.length) (L := [outE T w (xss.length + 1) oc]) hM rfl hoc (fun j h1 h2 => by omega) (Nat.le_refl _)
  have e : (Value.slice (some ⟨B, 0, none⟩) (tabAt xss xss.length).length S) = .slice (some ⟨B, 0, none⟩) S S := by rw [tabAt_len, hS]
  rw [e] at this
  exact this.r
theorem frozen_own {W x : World} {L : List Ent} (h : Mem W x L) (i : Nat) {b n c n' : Nat} {e : TypeId} {size : Nat} {cs : List Value} (hi : L[i]? = some ⟨.slice (some ⟨b, 0, none⟩) n c, e, size, n', cs⟩) (j : Nat) : x.frozen? ⟨b, j, none⟩ = false := by
  rcases (h.own i _ hi).2 with ⟨h1, _⟩ | ⟨g, cap, cur, hv, _, hg, _⟩
  · simp at h1
  · simp only [Value.slice.injEq, Option.some.injEq, Addr.mk.injEq] at hv
    obtain ⟨⟨rfl, _⟩, _⟩ := hv
    exact frozen_of_row _ b j cur e hg
end Go.Proofs.Ythahkoclkjfkdaa
