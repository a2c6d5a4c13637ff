/- What the small functions on integers return; no memory of the caller is changed. -/
import Derived.Test.YtdneffnnpjgnbabRows
import Derived.Test.YtdneffnnpjgnbabLib
import Derived.Test.YtdneffnnpjgnbabPlain
namespace Go.Proofs.Ytdneffnnpjgnbab
open Go.RowKit

set_option maxHeartbeats 400000 in
theorem in_c (n l h : Int) (w : World) : Calls Try.prog 39 #[.int .i64 n, .int .i64 l, .int .i64 h] w (Same (.bool (inB n l h)) w) := by
  refine hide_same fun v H => ?_
  go_enter Try.func39, Try.ntmps39
  go_wp2
  all_goals go_ret
  all_goals (refine Same.mk ?_; rw [← H.out]; simp [inB, *] <;> omega)
set_option maxHeartbeats 400000 in
theorem l00In_c (n l h : Int) (w : World) : Calls Try.prog 40 #[.int .i64 n, .int .i64 l, .int .i64 h] w (Same (.bool (inB n l h)) w) := by
  refine hide_same fun v H => ?_
  go_enter Try.func40, Try.ntmps40
  go_wp2
  all_goals go_ret
  all_goals (refine Same.mk ?_; rw [← H.out]; simp [inB, *] <;> omega)
set_option maxHeartbeats 400000 in
theorem ValidTime_c (t : Int) (w : World) : Calls Try.prog 31 #[.int .i64 t] w (Same (.bool (timeB t)) w) := by
  refine hide_same fun v H => ?_
  go_enter Try.func31, Try.ntmps31
  go_wp2_with (first | (go_at_call 39; refine (in_c _ _ _ _).mono ?_; rintro ee ww ⟨rfl, rfl⟩))
  all_goals go_ret
  all_goals (refine Same.mk ?_; rw [← H.out]; rfl)
set_option maxHeartbeats 400000 in
theorem l03Time_c (t : Int) (w : World) : Calls Try.prog 32 #[.int .i64 t] w (Same (.bool (timeB t)) w) := by
  refine hide_same fun v H => ?_
  go_enter Try.func32, Try.ntmps32
  go_wp2_with (first | (go_at_call 40; refine (l00In_c _ _ _ _).mono ?_; rintro ee ww ⟨rfl, rfl⟩))
  all_goals go_ret
  all_goals (refine Same.mk ?_; rw [← H.out]; rfl)

theorem tdiv_neg (a b : Int) (h : a < 0) (hb : 0 < b) : a.tdiv b ≤ 0 ∧ a ≤ a.tdiv b ∧ (if a.tmod b < 0 then a.tdiv b - 1 else a.tdiv b) = a / b := by
  have e1 : a.tdiv b = -((-a) / b) := by
    rw [show a = -(-a) by omega, Int.neg_tdiv, Int.tdiv_eq_ediv_of_nonneg (by omega), Int.neg_neg]
  have e2 : a.tmod b = -((-a) % b) := by
    rw [show a = -(-a) by omega, Int.neg_tmod, Int.tmod_eq_emod_of_nonneg (by omega), Int.neg_neg]
  have q0 := Int.ediv_nonneg (show 0 ≤ -a by omega) (show 0 ≤ b by omega)
  have q1 := Int.ediv_le_self b (show 0 ≤ -a by omega)
  have d0 := Int.emod_nonneg (-a) (show b ≠ 0 by omega)
  have d1 := Int.emod_lt_of_pos (-a) hb
  have d2 := Int.emod_add_mul_ediv (-a) b
  refine ⟨by omega, by omega, ?_⟩
  rw [e1, e2]
  generalize hq : (-a) / b = q at *
  generalize hr : (-a) % b = r at *
  have ea : a = -r + (-q) * b := by rw [Int.neg_mul, Int.mul_comm q b]; omega
  rw [ea, Int.add_mul_ediv_right _ _ (by omega)]
  split
  · rw [show -r = (b - r) + (-1) * b by omega, Int.add_mul_ediv_right _ _ (by omega), Int.ediv_eq_zero_of_lt (by omega) (by omega)]; omega
  · rw [show r = 0 by omega]; simp

theorem gcdI_neg (a b : Int) : gcdI (-a) (-b) = gcdI a b := by unfold gcdI; simp
theorem tdiv_in (n g : Int) (h : 1 ≤ g) (h1 : -9000000000000000000 ≤ n) (h2 : n ≤ 9000000000000000000) : IntKind.i64.wrap (n.tdiv g) = n.tdiv g :=
  IntWalk.i64_quo' n g ⟨by omega, by omega, h⟩
/-- a fraction in lowest terms: its numerator, its denominator -/
def fracN (n d : Int) : Int := n.tdiv (gcdI n d)
def fracD (n d : Int) : Int := d / gcdI n d

end Go.Proofs.Ytdneffnnpjgnbab
