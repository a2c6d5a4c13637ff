/- The text of an assignment: what both sides return. -/
import Derived.Test.YtdneffnnpjgnbacDoorMText
import Derived.Lib.Join
namespace Go.Proofs.YtdneffnnpjgnbacDoor
open Go.RowKit

def celS : Cel ByteArray := ⟨1, fun s => [.string s], fun _ => rfl, by decide, fun _ u h => by simp at h; subst h; rfl⟩
theorem join_snoc (s w : List UInt8) : ∀ l : List (List UInt8), Lib.join (l ++ [w]) s = if l = [] then w else Lib.join l s ++ s ++ w
  | [] => by rw [List.nil_append, Lib.join_one, if_pos rfl]
  | x :: r => by
    rw [List.cons_append, Lib.join_cons, Lib.join_cons, if_neg (by simp)]
    simp [Lib.joinTail]
theorem join_le {n : Nat} : ∀ l : List (List UInt8), (∀ w ∈ l, w.length ≤ n) → (Lib.join l [32]).length ≤ (n + 1) * l.length
  | [], _ => by rw [Lib.join_nil]; simp
  | x :: r, h => by
    have key : ∀ q : List (List UInt8), (∀ w ∈ q, w.length ≤ n) → (Lib.joinTail [32] q).length ≤ (n + 1) * q.length := by
      intro q
      induction q with
      | nil => intro _; simp [Lib.joinTail]
      | cons a q ih =>
        intro hq
        have h1 := ih fun w hw => hq w (List.mem_cons_of_mem _ hw)
        have h2 := hq a (List.mem_cons_self ..)
        have e : Lib.joinTail [32] (a :: q) = [32] ++ a ++ Lib.joinTail [32] q := by simp [Lib.joinTail]
        rw [e, List.length_append, List.length_append, List.length_cons, List.length_cons, List.length_nil, Nat.mul_succ]
        omega
    have h1 := key r fun w hw => h w (List.mem_cons_of_mem _ hw)
    have h2 := h x (List.mem_cons_self ..)
    rw [Lib.join_cons, List.length_append, List.length_cons, Nat.mul_succ]
    omega
theorem textS_app (a b : List UInt8) : textS (a ++ b) = textS a ++ textS b := (ByteArray.mk_append_mk a b).symm
theorem textS_size (a : List UInt8) : (textS a).size = a.length := by simp [textS, ByteArray.size]
theorem textS_list (a : List UInt8) : (textS a).data.toList = a := by simp [textS]
def word (n : Int) : List UInt8 := if n = -1 then [45] else Lib.itoa n
def textA (xs : List Int) : List UInt8 := Lib.join (xs.map word) [32]
theorem word_le {n : Int} (h0 : -9223372036854775808 ≤ n) (h1 : n ≤ 9223372036854775807) : (word n).length ≤ 21 := by
  unfold word
  split
  · simp
  · exact Lib.itoa_length_le n h0 h1
theorem textA_le {xs : List Int} (h : ∀ x ∈ xs, -9223372036854775808 ≤ x ∧ x ≤ 9223372036854775807) : (textA xs).length ≤ 22 * xs.length := by
  have := join_le (n := 21) (xs.map word) fun w hw => by
    obtain ⟨x, hx, rfl⟩ := List.mem_map.1 hw
    exact word_le (h x hx).1 (h x hx).2
  simpa [textA] using this
theorem textA_zero {xs : List Int} {x : Int} (h : xs[0]? = some x) : textA (xs.take 1) = word x := by
  rw [show (1 : Nat) = 0 + 1 from rfl, take_snoc_of h]
  simp [textA, Lib.join_one]
theorem textA_succ {xs : List Int} {k : Nat} {x : Int} (h : xs[k]? = some x) (hk : 0 < k) : textA (xs.take (k + 1)) = textA (xs.take k) ++ [32] ++ word x := by
  rw [take_snoc_of h]
  unfold textA
  rw [List.map_append, List.map_cons, List.map_nil, join_snoc, if_neg]
  intro e
  have h1 := (List.getElem?_eq_some_iff.1 h).1
  have h2 := congrArg List.length e
  rw [List.length_map, List.length_take, List.length_nil] at h2
  omega
end Go.Proofs.YtdneffnnpjgnbacDoor
