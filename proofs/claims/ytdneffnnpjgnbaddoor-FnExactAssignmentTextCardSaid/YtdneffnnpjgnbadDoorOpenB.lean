/- A slice of integers that came in as an argument, read as a list, its numbers in their range. -/
import Derived.Test.YtdneffnnpjgnbadDoorOpen
namespace Go.Proofs.YtdneffnnpjgnbadDoor
open Go.ChangeShapes Go.WideShapes Go.ChangeAt Go.RowKit Go.Deep

theorem open_slIB {H : Type} {enc : TypeId × Value → H} {P : Program} {t e : TypeId} {W : World} {v : Value} {d : DataW H} {ps : List MemPlace} {r : Reach} {b0 : Nat} (ht : P.underlying t = some (.slice e)) (he : P.underlying e = some (.int .i64)) (hc : P.cellsOf e = 1)
    (hv : Value.okWide P W r b0 t v) (h : DataW.Trod enc P W 0 (fun _ => true) true t v d ps) :
    ∃ a n c xs, v = .slice a n c ∧ Sl celI W a n c xs ∧ ∀ x ∈ xs, -9223372036854775808 ≤ x ∧ x ≤ 9223372036854775807 := by
  obtain ⟨a0, len, cap, rfl⟩ := okWide_slice ht hv
  obtain ⟨fuel, hf⟩ := h
  rcases open_ints ht he hc hf with ⟨hcs, _⟩ | ⟨a, len', cap', zs, hcs, _, hl, hm, hz, _, hx, hwf⟩
  · simp [Value.cells] at hcs
    obtain ⟨rfl, rfl, rfl⟩ := hcs
    exact ⟨none, 0, 0, [], rfl, ⟨rfl, Nat.le_refl _, by unfold maxLen; omega, fun h => by omega⟩, fun x hx => by simp at hx⟩
  · simp [Value.cells] at hcs
    obtain ⟨rfl, rfl, rfl⟩ := hcs
    simp only [if_true] at hz
    refine ⟨_, len, cap, zs.take len, rfl, ⟨by simp; omega, hl, hm, fun h0 => ?_⟩, fun x hx' => ?_⟩
    rotate_left
    · have := hwf x (List.mem_of_mem_take hx')
      simp [Lit.wf, IntKind.min, IntKind.max, IntKind.signed, IntKind.bits] at this
      exact ⟨by omega, by omega⟩
    obtain ⟨b, off, rfl, hb⟩ := spot_none (hx 0 (by omega))
    refine ⟨b, off, rfl, hb, fun i x hi j u hu => ?_⟩
    have hil : i < len := by
      have := (List.getElem?_eq_some_iff.1 hi).1
      simp at this; omega
    have hj : j = 0 := by
      have := (List.getElem?_eq_some_iff.1 hu).1
      simp [celI] at this; omega
    subst hj
    simp [celI] at hu
    subst hu
    have := hx i (by omega)
    rw [addr_add] at this
    rw [List.getElem?_take_of_lt hil] at hi
    simp only [celI, Nat.mul_one, Nat.add_zero]
    rw [this]; simp [hi]

end Go.Proofs.YtdneffnnpjgnbadDoor
