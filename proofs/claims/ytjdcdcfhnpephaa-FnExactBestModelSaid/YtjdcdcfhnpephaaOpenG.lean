/- Arguments that are structs of slices, read as lists. -/
import Derived.Test.YtjdcdcfhnpephaaOpen
import Derived.Test.YtjdcdcfhnpephaaGridM
namespace Go.Proofs.Ytjdcdcfhnpephaa
open Go.ChangeShapes Go.WideShapes Go.ChangeAt Go.RowKit Go.Deep

theorem open_slF {H : Type} {enc : TypeId × Value → H} {P : Program} {t e : TypeId} {W : World} {v : Value} {y : DataW H × List MemPlace} {fuel : Nat} (ht : P.underlying t = some (.slice e)) (he : P.underlying e = some (.int .i64)) (hc : P.cellsOf e = 1)
    (hf : DataW.trod enc P W 0 (fun _ => true) true fuel t [v] = some y) : ∃ a n c xs, v = .slice a n c ∧ Sl celI W a n c xs := by
  rcases open_ints ht he hc hf with ⟨hcs, _⟩ | ⟨a, len, cap, zs, hcs, _, hl, hm, hz, _, hx, _⟩
  · simp at hcs
    subst hcs
    exact ⟨none, 0, 0, [], rfl, rfl, Nat.le_refl _, by unfold maxLen; omega, fun h => by omega⟩
  · simp at hcs
    subst hcs
    simp only [if_true] at hz
    refine ⟨_, len, cap, zs.take len, rfl, by simp; omega, hl, hm, fun h0 => ?_⟩
    obtain ⟨b, off, rfl, hb⟩ := spot_none (hx 0 (by omega))
    refine ⟨b, off, rfl, hb, fun i x hi j u hu => ?_⟩
    have hil : i < len := by
      have := (List.getElem?_eq_some_iff.1 hi).1
      simp at this; omega
    have hj : j = 0 := by
      have := (List.getElem?_eq_some_iff.1 hu).1
      simp [celI] at this; omega
    subst hj
    simp [celI] at hu
    subst hu
    have := hx i (by omega)
    rw [addr_add] at this
    rw [List.getElem?_take_of_lt hil] at hi
    simp only [celI, Nat.mul_one, Nat.add_zero]
    rw [this]; simp [hi]
/-- three rows more: a grid's copies -/
theorem mem_grid {P : Program} {f : FuncId} {args : Array Value} {W w0 w : World} {L : List Ent} {e : TypeId} {A B C : List Int} (h : Mem W w0 L) (hb : Bel w0 w)
    (c : Calls P f args w fun en w' => ∃ v1 v2 v3 g, en = .returned (.agg #[v1, v2, v3]) ∧ w' = ext w g ∧ Mem w (ext w g) [⟨v1, e, 1, A.length, celI.row A⟩, ⟨v2, e, 1, B.length, celI.row B⟩, ⟨v3, e, 1, C.length, celI.row C⟩]) :
    Calls P f args w fun en w' => ∃ v1 v2 v3 g, en = .returned (.agg #[v1, v2, v3]) ∧ w' = ext W g ∧ Mem W (ext W g) (L ++ [⟨v1, e, 1, A.length, celI.row A⟩, ⟨v2, e, 1, B.length, celI.row B⟩, ⟨v3, e, 1, C.length, celI.row C⟩]) :=
  c.mono fun _ _ ⟨v1, v2, v3, g, he, hw, hm⟩ => by
    have h1 := mem_app (mem_bel h hb) hm
    obtain ⟨g', hg⟩ := ext_ex h1.bel
    exact ⟨v1, v2, v3, g', he, hw.trans hg, hg ▸ h1⟩
end Go.Proofs.Ytjdcdcfhnpephaa
