/- Marks and results of two rows, among the rows of a call. -/
import Derived.Test.YthahkoclkjfkdaaMark
import Derived.Test.YthahkoclkjfkdaaPrices
namespace Go.Proofs.Ythahkoclkjfkdaa
open Go.RowKit

theorem mem_row2F {P : Program} {f : FuncId} {args : Array Value} {W w0 w : World} {L : List Ent} {e : TypeId} {xs ys : List Int} {code : Int} (h : Mem W w0 L) (hb : Bel w0 w) (c : Calls P f args w (RetRow2 e xs ys code w)) :
    Calls P f args w fun en w' => ∃ v1 v2 g, en = .returned (.tuple #[v1, v2, .int .i64 code]) ∧ w' = ext W g ∧ Mem W (ext W g) (⟨v1, e, 1, xs.length, celI.row xs⟩ :: ⟨v2, e, 1, ys.length, celI.row ys⟩ :: L) := c.mono fun _ _ ⟨v1, v2, g, he, hw, hm⟩ => by
  have h2 := mem_app (mem_bel h hb) hm
  obtain ⟨g', hg⟩ := ext_ex h2.bel
  refine ⟨v1, v2, g', he, hw.trans hg, ?_⟩
  rw [← hg]
  have e1 : L ++ [(⟨v1, e, 1, xs.length, celI.row xs⟩ : Ent), ⟨v2, e, 1, ys.length, celI.row ys⟩] = (L ++ [⟨v1, e, 1, xs.length, celI.row xs⟩]) ++ [⟨v2, e, 1, ys.length, celI.row ys⟩] := by simp
  rw [e1] at h2
  have h3 := mem_front h2
  exact mem_front (L := ⟨v2, e, 1, ys.length, celI.row ys⟩ :: L) h3
theorem markI_c {W w0 w : World} {L : List Ent} (h : Mem W w0 L) (hb : Bel w0 w) (i : Nat) {v : Value} {e : TypeId} {n : Nat} {cs : List Value} (k : Int) (hi : L[i]? = some ⟨v, e, 1, n, cs⟩) (hn : n ≤ 1000000000) (h1 : 0 ≤ k) (h2 : k ≤ 1000000000000) :
    Calls Try.prog 32 #[v, .int .i64 k] w fun en w' => en = .returned (.int .i64 (k + (n : Int))) ∧ ∃ g, w' = ext W g ∧ Mem W (ext W g) (L.set i ⟨v, e, 1, n, markCells k n⟩) := by
  have := mem_mark (k := k) h hb i hi (fun hm => markInt64S_c v e n cs k W w hm.bel (hm.own i _ hi) hn h1 h2)
  simp only [Nat.mul_one] at this
  exact this
theorem heldI_c (v : Value) (B : Nat) (e : TypeId) (n : Nat) (k : Int) (w : World) (ho : w.ownsRow B e 1 v n (markCells k n)) (hn : n ≤ 1000000000) (h1 : 0 ≤ k) (h2 : k ≤ 1000000000000) :
    Calls Try.prog 33 #[v, .int .i64 k] w (Ret (.int .i64 (k + (n : Int))) w) := by
  have := heldInt64S_c v B e n k w (by rw [Nat.mul_one]; exact ho) hn h1 h2
  rw [Nat.mul_one] at this
  exact this
end Go.Proofs.Ythahkoclkjfkdaa
