/- The text of an assignment: what the program returns. -/
import Derived.Test.YtdneffnnpjgnbacDoorAText
namespace Go.Proofs.YtdneffnnpjgnbacDoor
open Go.RowKit

theorem appS : AppF Tryd.prog 57 9 1 16 := appF_of (z := .string ⟨#[]⟩) Tryd.underlying57 (by kernel_rfl) rfl
/-- a row of strings that the call owns, as its address -/
theorem own_strs {w : World} {B : Nat} {e : TypeId} {v : Value} {n : Nat} {cs : List Value} (h : w.ownsRow B e 1 v n cs) (h0 : 0 < n) :
    ∃ b c, v = .slice (some ⟨b, 0, none⟩) n c ∧ b < w.heap.size ∧ n ≤ c ∧ c ≤ maxLen := by
  have hl := h.lt
  rcases h.2 with ⟨rfl, hn⟩ | ⟨b, c, cur, rfl, hb, hg, h1, h2, _⟩
  · omega
  · exact ⟨b, c, rfl, (hl b rfl).2, h1, h2⟩
theorem row_strs (xs : List ByteArray) : celS.row xs = xs.map Value.string := by
  unfold Cel.row
  induction xs with
  | nil => rfl
  | cons a r ih => rw [List.flatMap_cons, ih]; rfl
def wordS (n : Int) : ByteArray := textS (word n)
theorem join_words (xs : List Int) : Lib.join ((xs.map wordS).map (·.data.toList)) [32] = textA xs := by
  unfold textA
  congr 1
  rw [List.map_map]
  exact List.map_congr_left fun x _ => textS_list _
end Go.Proofs.YtdneffnnpjgnbacDoor
