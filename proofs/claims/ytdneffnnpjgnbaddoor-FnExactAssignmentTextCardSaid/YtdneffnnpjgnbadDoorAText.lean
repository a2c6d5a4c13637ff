/- The text of an assignment: what both sides return. -/
import Derived.Test.YtdneffnnpjgnbadDoorMText
import Derived.Lib.Join
namespace Go.Proofs.YtdneffnnpjgnbadDoor
open Go.RowKit

def celS : Cel ByteArray := ⟨1, fun s => [.string s], fun _ => rfl, by decide, fun _ u h => by simp at h; subst h; rfl⟩
theorem join_snoc (s w : List UInt8) : ∀ l : List (List UInt8), Lib.join (l ++ [w]) s = if l = [] then w else Lib.join l s ++ s ++ w
  | [] => by rw [List.nil_append, Lib.join_one, if_pos rfl]
  | x :: r => by
    rw [List.cons_append, Lib.join_cons, Lib.join_cons, if_neg (by simp)]
    simp [Lib.joinTail]
theorem join_le {n : Nat} : ∀ l : List (List UInt8), (∀ w ∈ l, w.length ≤ n) → (Lib.join l [32]).length ≤ (n + 1) * l.length
  | [], _ => by rw [Lib.join_nil]; simp
  | x :: r, h => by
    have key : ∀ q : List (List UInt8), (∀ w ∈ q, w.length ≤ n) → (Lib.joinTail [32] q).length ≤ (n + 1) * q.length := by
      intro q
      induction q with
      | nil => intro _; simp [Lib.joinTail]
      | cons a q ih =>
        intro hq
        have h1 := ih fun w hw => hq w (List.mem_cons_of_mem _ hw)
        have h2 := hq a (List.mem_cons_self ..)
        have e : Lib.joinTail [32] (a :: q) = [32] ++ a ++ Lib.joinTail [32] q := by simp [Lib.joinTail]
        rw [e, List.length_append, List.length_append, List.length_cons, List.length_cons, List.length_nil, Nat.mul_succ]
        omega
    have h1 := key r fun w hw => h w (List.mem_cons_of_mem _ hw)
    have h2 := h x (List.mem_cons_self ..)
    rw [Lib.join_cons, List.length_append, List.length_cons, Nat.mul_succ]
    omega
theorem textS_app (a b : List UInt8) : textS (a ++ b) = textS a ++ textS b := (ByteArray.mk_append_mk a b).symm
theorem textS_size (a : List UInt8) : (textS a).size = a.length := by simp [textS, ByteArray.size]
theorem textS_list (a : List UInt8) : (textS a).data.toList = a := by simp [textS]
def word (n : Int) : List UInt8 := if n = -1 then [45] else Lib.itoa n
def textA (xs : List Int) : List UInt8 := Lib.join (xs.map word) [32]
theorem word_le {n : Int} (h0 : -9223372036854775808 ≤ n) (h1 : n ≤ 9223372036854775807) : (word n).length ≤ 21 := by
  unfold word
  split
  · simp
  · exact Lib.itoa_length_le n h0 h1
theorem textA_le {xs : List Int} (h : ∀ x ∈ xs, -9223372036854775808 ≤ x ∧ x ≤ 9223372036854775807) : (textA xs).length ≤ 22 * xs.length := by
  have := join_le (n := 21) (xs.map word) fun w hw => by
    obtain ⟨x, hx, rfl⟩ := List.mem_map.1 hw
    exact word_le (h x hx).1 (h x hx).2
  simpa [textA] using this
theorem textA_zero {xs : List Int} {x : Int} (h : xs[0]? = some x) : textA (xs.take 1) = word x := by
  rw [show (1 : Nat) = 0 + 1 from rfl, take_snoc_of h]
  simp [textA, Lib.join_one]
theorem textA_succ {xs : List Int} {k : Nat} {x : Int} (h : xs[k]? = some x) (hk : 0 < k) : textA (xs.take (k + 1)) = textA (xs.take k) ++ [32] ++ word x := by
  rw [take_snoc_of h]
  unfold textA
  rw [List.map_append, List.map_cons, List.map_nil, join_snoc, if_neg]
  intro e
  have h1 := (List.getElem?_eq_some_iff.1 h).1
  have h2 := congrArg List.length e
  rw [List.length_map, List.length_take, List.length_nil] at h2
  omega
set_option maxHeartbeats 4000000 in
theorem sAssignmentText_c (u : Value) (xs : List Int) (w : World) (hu : Rd celI w u xs) (hn : xs.length ≤ 1048576) (hb : ∀ x ∈ xs, -9223372036854775808 ≤ x ∧ x ≤ 9223372036854775807) :
    Calls Tryd.prog 4 #[u] w (Ret (.string (textS (textA xs))) w) := by
  refine hide_ret fun v H => ?_
  obtain ⟨a, m, c, rfl, hs⟩ := hu.sl
  have hcap := hs.le; have hmax := hs.cap
  unfold maxLen at hmax
  have HL := Lib.hid hs.len
  have HB := Lib.hid hb
  rw [← HL.out] at hn
  clear hb hu
  go_enter Tryd.func4, Tryd.ntmps4
  go_wp2
  go_loopw [3, 4] (fun o i wr => ∃ (k : Nat) (s : ByteArray), k ≤ m ∧ i = .int .i64 k ∧ o = .string s ∧ s.size ≤ 22 * k ∧ (∃ g, wr = ext w g) ∧ Hid (s = textS (textA (xs.take k)))) (fun _ i _ => m - (intOf i).toNat)
  case atStart => exact ⟨0, ⟨#[]⟩, Nat.zero_le _, rfl, rfl, Nat.le_refl _, ext_ex (by (repeat (first | with_reducible exact Bel.refl _ | with_reducible assumption | apply Bel.ext | apply Bel.alloc | apply Bel.drew | exact Bel.refl _ | refine Bel.set ?_ (by first | (simp; done) | (simp [go_sem]; done) | omega) _)) : Bel _ _), Lib.hid rfl⟩
  case round =>
    obtain ⟨k, s, hk, rfl, rfl, hsz, ⟨g, rfl⟩, hv⟩ := hrel
    by_cases hlt : k < m
    · obtain ⟨bb, off, rfl, hb⟩ := hs.base hlt
      obtain ⟨x, hx, hc⟩ := hs.at1 hlt
      have hxb := HB.out x (List.mem_of_getElem? hx.out)
      have HD := Lib.hid (fun w => l01Dec_c x hxb.1 hxb.2 w)
      have hsz2 := itoa_size x hxb.1 hxb.2
      have HZ : Hid (∀ s', s' = (if k = 0 then s else s ++ ⟨#[32]⟩) ++ textS (word x) → s' = textS (textA (xs.take (k + 1)))) := Lib.hid (fun s' h => by
        rw [h, hv.out]
        rcases Nat.eq_zero_or_pos k with h0 | h0
        · subst h0
          rw [if_pos rfl, Nat.zero_add, textA_zero hx.out, List.take_zero, ← textS_app]; rfl
        · rw [if_neg (by omega), textA_succ hx.out h0, textS_app, textS_app]; rfl)
      unfold word at HZ
      clear hv
      have q1 : ¬ 9223372036854775807 < s.size + 1 := by omega
      have q2 : ¬ 9223372036854775807 < s.size + 1 + 1 := by omega
      have q3 : ¬ 9223372036854775807 < s.size + (textS (Lib.itoa x)).size := by omega
      have q4 : ¬ 9223372036854775807 < s.size + 1 + (textS (Lib.itoa x)).size := by omega
      rcases Nat.eq_zero_or_pos k with h0 | h0
      · subst h0
        rw [Nat.add_zero] at hc
        rw [if_pos rfl] at HZ
        by_cases hx1 : x = -1
        · subst hx1
          rw [if_pos rfl] at HZ
          have HN := Lib.hid (HZ.out _ rfl)
          clear HZ
          go_wp2
          go_roundw
          case rel => exact ⟨1, _, by omega, by go_num, rfl, by simp [go_sem]; omega, ext_ex (by (repeat (first | with_reducible exact Bel.refl _ | with_reducible assumption | apply Bel.ext | apply Bel.alloc | apply Bel.drew | exact Bel.refl _ | refine Bel.set ?_ (by first | (simp; done) | (simp [go_sem]; done) | omega) _)) : Bel _ _), HN⟩
          case measure => simp [intOf]; omega
        · rw [if_neg hx1] at HZ
          have hx2 : (x == -1) = false := by simpa using hx1
          have HN := Lib.hid (HZ.out _ rfl)
          clear HZ
          go_wp2_with (first | (go_at_call 8; refine Calls.mono (HD.out _) ?_; rintro ee ww ⟨rfl, _, rfl⟩))
          go_roundw
          case rel => exact ⟨1, _, by omega, by go_num, rfl, by simp [go_sem]; omega, ext_ex (by (repeat (first | with_reducible exact Bel.refl _ | with_reducible assumption | apply Bel.ext | apply Bel.alloc | apply Bel.drew | exact Bel.refl _ | refine Bel.set ?_ (by first | (simp; done) | (simp [go_sem]; done) | omega) _)) : Bel _ _), HN⟩
          case measure => simp [intOf]; omega
      · rw [if_neg (by omega)] at HZ
        by_cases hx1 : x = -1
        · subst hx1
          rw [if_pos rfl] at HZ
          have HN := Lib.hid (HZ.out _ rfl)
          clear HZ
          go_wp2
          go_roundw
          case rel => exact ⟨k + 1, _, by omega, by go_num, rfl, by simp [go_sem]; omega, ext_ex (by (repeat (first | with_reducible exact Bel.refl _ | with_reducible assumption | apply Bel.ext | apply Bel.alloc | apply Bel.drew | exact Bel.refl _ | refine Bel.set ?_ (by first | (simp; done) | (simp [go_sem]; done) | omega) _)) : Bel _ _), HN⟩
          case measure => simp [intOf]; omega
        · rw [if_neg hx1] at HZ
          have hx2 : (x == -1) = false := by simpa using hx1
          have HN := Lib.hid (HZ.out _ rfl)
          clear HZ
          go_wp2_with (first | (go_at_call 8; refine Calls.mono (HD.out _) ?_; rintro ee ww ⟨rfl, _, rfl⟩))
          go_roundw
          case rel => exact ⟨k + 1, _, by omega, by go_num, rfl, by simp [go_sem]; omega, ext_ex (by (repeat (first | with_reducible exact Bel.refl _ | with_reducible assumption | apply Bel.ext | apply Bel.alloc | apply Bel.drew | exact Bel.refl _ | refine Bel.set ?_ (by first | (simp; done) | (simp [go_sem]; done) | omega) _)) : Bel _ _), HN⟩
          case measure => simp [intOf]; omega
    · have hkm : k = m := by omega
      have hv2 := hv.out
      rw [List.take_of_length_le (by rw [← HL.out]; omega)] at hv2
      have HV := Lib.hid (H.out.symm.trans (by rw [← hv2] : _ = Value.string s))
      clear hv hv2
      go_wp2
      go_ret
      exact Ret.mk HV.out.symm (by (repeat (first | with_reducible exact Bel.refl _ | with_reducible assumption | apply Bel.ext | apply Bel.alloc | apply Bel.drew | exact Bel.refl _ | refine Bel.set ?_ (by first | (simp; done) | (simp [go_sem]; done) | omega) _)) : Bel _ _)
end Go.Proofs.YtdneffnnpjgnbadDoor
