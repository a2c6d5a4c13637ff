/- A rule that came in as an argument: its class and its numbers. -/
import Derived.Test.YtdneffnnpjgnbaaOpen
import Derived.Test.YtdneffnnpjgnbaaRowRule
namespace Go.Proofs.Ytdneffnnpjgnbaa
open Go.ChangeShapes Go.WideShapes Go.ChangeAt Go.RowKit Go.Deep Go.Joins

theorem open_rule {H : Type} {enc : TypeId × Value → H} {P : Program} {t : TypeId} {f0 f1 f2 f3 f4 f5 : Field} {W : World} {v : Value} {d : DataW H} {ps : List MemPlace} {r : Reach} {b0 : Nat} (ht : P.underlying t = some (.struct #[f0, f1, f2, f3, f4, f5])) (hone : oneCellFields P #[f0, f1, f2, f3, f4, f5] = true) (hC : P.cellsOf t = 6)
    (u0 : P.underlying f0.type = some .string) (u1 : P.underlying f1.type = some (.int .i64)) (u2 : P.underlying f2.type = some (.int .i64)) (u3 : P.underlying f3.type = some (.int .i64)) (u4 : P.underlying f4.type = some (.int .i64)) (u5 : P.underlying f5.type = some (.int .i64))
    (hv : Value.okWide P W r b0 t v) (h : DataW.Trod enc P W 0 (fun _ => true) true t v d ps) :
    ∃ (c : ByteArray) (a b p q s : Int), v = .agg #[.string c, .int .i64 a, .int .i64 b, .int .i64 p, .int .i64 q, .int .i64 s] ∧ c.size ≤ maxLen := by
  obtain ⟨cs, rfl, hsz⟩ := okWide_struct ht hv
  obtain ⟨fuel, hf⟩ := h
  obtain ⟨xs, n, _, _, _, hxl, hg⟩ := DataW.trod_struct ht hf
  rw [hC] at hsz
  obtain ⟨l⟩ := cs
  match l, hsz with
  | [c0, c1, c2, c3, c4, c5], _ =>
    have at_ : ∀ (j : Nat) (f : Field), #[f0, f1, f2, f3, f4, f5][j]? = some f → ∃ y, DataW.trod enc P W 0 (fun _ => true) true n f.type ((([c0, c1, c2, c3, c4, c5] : List Value).drop j).take 1) = some y := by
      intro j f hj
      obtain ⟨o, k⟩ := hone_of hone j f hj
      have h9 := hg j f hj
      rw [o, k] at h9
      have hj6 : j < xs.length := by
        rw [hxl]
        exact (Array.getElem?_eq_some_iff.1 hj).1
      rw [List.getElem?_eq_getElem hj6] at h9
      exact ⟨_, by simpa [Value.cells] using h9⟩
    obtain ⟨y0, e0⟩ := at_ 0 f0 rfl
    obtain ⟨y1, e1⟩ := at_ 1 f1 rfl
    obtain ⟨y2, e2⟩ := at_ 2 f2 rfl
    obtain ⟨y3, e3⟩ := at_ 3 f3 rfl
    obtain ⟨y4, e4⟩ := at_ 4 f4 rfl
    obtain ⟨y5, e5⟩ := at_ 5 f5 rfl
    obtain ⟨c, q0, -, hc⟩ := DataW.trod_string u0 e0
    obtain ⟨x1, q1, -, -⟩ := DataW.trod_int u1 e1
    obtain ⟨x2, q2, -, -⟩ := DataW.trod_int u2 e2
    obtain ⟨x3, q3, -, -⟩ := DataW.trod_int u3 e3
    obtain ⟨x4, q4, -, -⟩ := DataW.trod_int u4 e4
    obtain ⟨x5, q5, -, -⟩ := DataW.trod_int u5 e5
    simp at q0 q1 q2 q3 q4 q5
    subst q0 q1 q2 q3 q4 q5
    exact ⟨c, x1, x2, x3, x4, x5, rfl, hc⟩
/-- the cells of one element: a string and five integers -/
theorem rule_cells {H : Type} {enc : TypeId × Value → H} {P : Program} {t : TypeId} {f0 f1 f2 f3 f4 f5 : Field} {W : World} {cs : List Value} {n : Nat} {y : DataW H × List MemPlace} (ht : P.underlying t = some (.struct #[f0, f1, f2, f3, f4, f5])) (hone : oneCellFields P #[f0, f1, f2, f3, f4, f5] = true)
    (u0 : P.underlying f0.type = some .string) (u1 : P.underlying f1.type = some (.int .i64)) (u2 : P.underlying f2.type = some (.int .i64)) (u3 : P.underlying f3.type = some (.int .i64)) (u4 : P.underlying f4.type = some (.int .i64)) (u5 : P.underlying f5.type = some (.int .i64))
    (hl : cs.length = 6) (h : DataW.trod enc P W 0 (fun _ => true) true n t cs = some y) :
    ∃ x : RuleD, cs = celR.cells x ∧ x.1.size ≤ maxLen := by
  obtain ⟨xs, n, _, _, _, hxl, hg⟩ := DataW.trod_struct ht h
  match cs, hl with
  | [c0, c1, c2, c3, c4, c5], _ =>
    have at_ : ∀ (j : Nat) (f : Field), #[f0, f1, f2, f3, f4, f5][j]? = some f → ∃ y, DataW.trod enc P W 0 (fun _ => true) true n f.type ((([c0, c1, c2, c3, c4, c5] : List Value).drop j).take 1) = some y := by
      intro j f hj
      obtain ⟨o, k⟩ := hone_of hone j f hj
      have h9 := hg j f hj
      rw [o, k] at h9
      have hj6 : j < xs.length := by
        rw [hxl]
        exact (Array.getElem?_eq_some_iff.1 hj).1
      rw [List.getElem?_eq_getElem hj6] at h9
      exact ⟨_, h9⟩
    obtain ⟨y0, e0⟩ := at_ 0 f0 rfl
    obtain ⟨y1, e1⟩ := at_ 1 f1 rfl
    obtain ⟨y2, e2⟩ := at_ 2 f2 rfl
    obtain ⟨y3, e3⟩ := at_ 3 f3 rfl
    obtain ⟨y4, e4⟩ := at_ 4 f4 rfl
    obtain ⟨y5, e5⟩ := at_ 5 f5 rfl
    obtain ⟨c, q0, -, hc⟩ := DataW.trod_string u0 e0
    obtain ⟨x1, q1, -, -⟩ := DataW.trod_int u1 e1
    obtain ⟨x2, q2, -, -⟩ := DataW.trod_int u2 e2
    obtain ⟨x3, q3, -, -⟩ := DataW.trod_int u3 e3
    obtain ⟨x4, q4, -, -⟩ := DataW.trod_int u4 e4
    obtain ⟨x5, q5, -, -⟩ := DataW.trod_int u5 e5
    simp at q0 q1 q2 q3 q4 q5
    subst q0 q1 q2 q3 q4 q5
    exact ⟨(c, x1, x2, x3, x4, x5), rfl, hc⟩
theorem open_slR {H : Type} {enc : TypeId × Value → H} {P : Program} {t e : TypeId} {f0 f1 f2 f3 f4 f5 : Field} {W : World} {v : Value} {d : DataW H} {ps : List MemPlace} {r : Reach} {b0 : Nat} (ht : P.underlying t = some (.slice e)) (he : P.underlying e = some (.struct #[f0, f1, f2, f3, f4, f5])) (hone : oneCellFields P #[f0, f1, f2, f3, f4, f5] = true) (ce : P.cellsOf e = 6)
    (u0 : P.underlying f0.type = some .string) (u1 : P.underlying f1.type = some (.int .i64)) (u2 : P.underlying f2.type = some (.int .i64)) (u3 : P.underlying f3.type = some (.int .i64)) (u4 : P.underlying f4.type = some (.int .i64)) (u5 : P.underlying f5.type = some (.int .i64))
    (hv : Value.okWide P W r b0 t v) (h : DataW.Trod enc P W 0 (fun _ => true) true t v d ps) :
    ∃ a n c xs, v = .slice a n c ∧ Sl celR W a n c xs ∧ ∀ x ∈ xs, x.1.size ≤ maxLen := by
  obtain ⟨a0, len, cap, rfl⟩ := okWide_slice ht hv
  obtain ⟨fuel, hf⟩ := h
  rcases open_slice ht hf with ⟨hcs, _⟩ | ⟨a, len', cap', m, n, D, Pl, hcs, _, hl, hm, hmm, _, hi⟩
  · simp [Value.cells] at hcs
    obtain ⟨rfl, rfl, rfl⟩ := hcs
    exact ⟨none, 0, 0, [], rfl, ⟨rfl, Nat.le_refl _, by unfold maxLen; omega, fun h => by omega⟩, fun x hx => by simp at hx⟩
  · simp [Value.cells] at hcs
    obtain ⟨rfl, rfl, rfl⟩ := hcs
    simp only [if_true] at hmm
    subst hmm
    have key : ∀ i : Nat, ∃ x : RuleD, i < m → x.1.size ≤ maxLen ∧ ∀ j u, (celR.cells x)[j]? = some u → W.cell? (a.add (i * 6 + j)) = some u := by
      intro i
      by_cases him : i < m
      · obtain ⟨cs', hc, ht'⟩ := hi i him
        rw [ce] at hc
        obtain ⟨_, hcl, hat⟩ := World.cells?_some hc
        obtain ⟨x, hx, hs⟩ := rule_cells he hone u0 u1 u2 u3 u4 u5 hcl ht'
        refine ⟨x, fun _ => ⟨hs, fun j u hu => ?_⟩⟩
        have hj : j < 6 := by
          have := (List.getElem?_eq_some_iff.1 hu).1
          rw [celR.len] at this; exact this
        have h9 := hat j hj
        rw [hx, hu] at h9
        rw [← Go.Deep.add_add]; exact h9
      · exact ⟨(ByteArray.empty, 0, 0, 0, 0, 0), fun h => absurd h him⟩
    obtain ⟨F, hF⟩ := Classical.axiomOfChoice key
    refine ⟨_, len, m, (List.range len).map F, rfl, ⟨by simp, hl, hm, fun h0 => ?_⟩, fun x hx => ?_⟩
    · obtain ⟨b, off, rfl, hb⟩ := spot_none ((hF 0 (by omega)).2 0 _ rfl)
      refine ⟨b, off, rfl, hb, fun i x hi j u hu => ?_⟩
      have hil : i < len := by
        have := (List.getElem?_eq_some_iff.1 hi).1
        simpa using this
      rw [List.getElem?_map, List.getElem?_range hil] at hi
      simp only [Option.map_some, Option.some.injEq] at hi
      subst hi
      have h9 := (hF i (by omega)).2 j u hu
      rw [addr_add] at h9
      rw [Nat.add_assoc]; exact h9
    · obtain ⟨i, hi, rfl⟩ := List.mem_map.1 hx
      have := List.mem_range.1 hi
      exact (hF i (by omega)).1
end Go.Proofs.Ytdneffnnpjgnbaa
