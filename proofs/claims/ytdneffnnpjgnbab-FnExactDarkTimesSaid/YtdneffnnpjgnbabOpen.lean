/- Slices that came in as arguments, read as lists. -/
import Derived.Test.YtdneffnnpjgnbabLift
import Derived.Test.YtdneffnnpjgnbabRow
import Derived.Deep.SlicePairs
import Derived.Deep.Slices
namespace Go.Proofs.Ytdneffnnpjgnbab
open Go.ChangeShapes Go.WideShapes Go.ChangeAt Go.RowKit Go.Deep

theorem spot_none {w : World} {a : Addr} {u : Value} (h : w.cell? (a.add 0) = some u) : ∃ b off, a = ⟨b, off, none⟩ ∧ b < w.heap.size := by
  obtain ⟨b, off, s⟩ := a
  have h : w.cell? ⟨b, off, s⟩ = some u := by simpa [Addr.add] using h
  have hs : s = none := World.cell?_spot h
  subst hs
  exact ⟨b, off, rfl, World.block_lt_of_cell? w _ h⟩

theorem open_slI {H : Type} {enc : TypeId × Value → H} {P : Program} {t e : TypeId} {W : World} {v : Value} {d : DataW H} {ps : List MemPlace} {r : Reach} {b0 : Nat} (ht : P.underlying t = some (.slice e)) (he : P.underlying e = some (.int .i64)) (hc : P.cellsOf e = 1)
    (hv : Value.okWide P W r b0 t v) (h : DataW.Trod enc P W 0 (fun _ => true) true t v d ps) :
    ∃ a n c xs, v = .slice a n c ∧ Sl celI W a n c xs := by
  obtain ⟨a0, len, cap, rfl⟩ := okWide_slice ht hv
  obtain ⟨fuel, hf⟩ := h
  rcases open_ints ht he hc hf with ⟨hcs, _⟩ | ⟨a, len', cap', zs, hcs, _, hl, hm, hz, _, hx, _⟩
  · simp [Value.cells] at hcs
    obtain ⟨rfl, rfl, rfl⟩ := hcs
    exact ⟨none, 0, 0, [], rfl, rfl, Nat.le_refl _, by unfold maxLen; omega, fun h => by omega⟩
  · simp [Value.cells] at hcs
    obtain ⟨rfl, rfl, rfl⟩ := hcs
    simp only [if_true] at hz
    refine ⟨_, len, cap, zs.take len, rfl, by simp; omega, hl, hm, fun h0 => ?_⟩
    obtain ⟨b, off, rfl, hb⟩ := spot_none (hx 0 (by omega))
    refine ⟨b, off, rfl, hb, fun i x hi j u hu => ?_⟩
    have hil : i < len := by
      have := (List.getElem?_eq_some_iff.1 hi).1
      simp at this; omega
    have hj : j = 0 := by
      have := (List.getElem?_eq_some_iff.1 hu).1
      simp [celI] at this; omega
    subst hj
    simp [celI] at hu
    subst hu
    have := hx i (by omega)
    rw [addr_add] at this
    rw [List.getElem?_take_of_lt hil] at hi
    simp only [celI, Nat.mul_one, Nat.add_zero]
    rw [this]; simp [hi]

theorem open_sl2 {H : Type} {enc : TypeId × Value → H} {P : Program} {t e : TypeId} {f0 f1 : Field} {W : World} {v : Value} {d : DataW H} {ps : List MemPlace} {r : Reach} {b0 : Nat} (ht : P.underlying t = some (.slice e)) (he : P.underlying e = some (.struct #[f0, f1])) (ce : P.cellsOf e = 2)
    (o0 : f0.offset = 0) (o1 : f1.offset = 1) (c0 : P.cellsOf f0.type = 1) (c1 : P.cellsOf f1.type = 1) (u0 : P.underlying f0.type = some (.int .i64)) (u1 : P.underlying f1.type = some (.int .i64))
    (hv : Value.okWide P W r b0 t v) (h : DataW.Trod enc P W 0 (fun _ => true) true t v d ps) :
    ∃ a n c xs, v = .slice a n c ∧ Sl cel2 W a n c xs := by
  obtain ⟨a0, len, cap, rfl⟩ := okWide_slice ht hv
  obtain ⟨fuel, hf⟩ := h
  rcases open_slice_pairs ht he ce o0 o1 c0 c1 hf with ⟨hcs, _⟩ | ⟨a, len', cap', m, k, V0, V1, D0, D1, P0, P1, hcs, _, hl, hm, hmm, _, hx⟩
  · simp [Value.cells] at hcs
    obtain ⟨rfl, rfl, rfl⟩ := hcs
    exact ⟨none, 0, 0, [], rfl, rfl, Nat.le_refl _, by unfold maxLen; omega, fun h => by omega⟩
  · simp [Value.cells] at hcs
    obtain ⟨rfl, rfl, rfl⟩ := hcs
    simp only [if_true] at hmm
    subst hmm
    have hint : ∀ i, i < m → V0 i = .int .i64 (intOf (V0 i)) ∧ V1 i = .int .i64 (intOf (V1 i)) := by
      intro i hi
      obtain ⟨_, _, t0, t1⟩ := hx i hi
      obtain ⟨x, e0, _, _⟩ := DataW.trod_int u0 t0
      obtain ⟨y, e1, _, _⟩ := DataW.trod_int u1 t1
      simp at e0 e1
      rw [e0, e1]; exact ⟨rfl, rfl⟩
    refine ⟨_, len, m, (List.range len).map fun i => (intOf (V0 i), intOf (V1 i)), rfl, by simp, hl, hm, fun h0 => ?_⟩
    obtain ⟨b, off, rfl, hb⟩ := spot_none (hx 0 (by omega)).1
    refine ⟨b, off, rfl, hb, fun i x hi j u hu => ?_⟩
    have hil : i < len := by
      have := (List.getElem?_eq_some_iff.1 hi).1
      simpa using this
    simp [hil] at hi
    subst hi
    obtain ⟨q0, q1, _, _⟩ := hx i (by omega)
    rw [addr_add] at q0 q1
    obtain ⟨i0, i1⟩ := hint i (by omega)
    match j, hu with
    | 0, hu =>
      simp [cel2] at hu; subst hu
      rw [← i0]; exact q0
    | 1, hu =>
      simp [cel2] at hu; subst hu
      rw [← i1]; exact q1
    | j + 2, hu => simp [cel2] at hu
end Go.Proofs.Ytdneffnnpjgnbab
