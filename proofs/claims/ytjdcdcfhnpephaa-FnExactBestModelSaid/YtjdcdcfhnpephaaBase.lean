/- What the small functions on integers return; no memory of the caller is changed. -/
import Derived.Test.YtjdcdcfhnpephaaRows
import Derived.Test.YtjdcdcfhnpephaaLib
import Derived.Test.YtjdcdcfhnpephaaPlain
namespace Go.Proofs.Ytjdcdcfhnpephaa
open Go.RowKit

set_option maxHeartbeats 400000 in
theorem in_c (n l h : Int) (w : World) : Calls Try.prog 48 #[.int .i64 n, .int .i64 l, .int .i64 h] w (Same (.bool (inB n l h)) w) := by
  refine hide_same fun v H => ?_
  go_enter Try.func48, Try.ntmps48
  go_wp2
  all_goals go_ret
  all_goals (refine Same.mk ?_; rw [← H.out]; simp [inB, *] <;> omega)
set_option maxHeartbeats 400000 in
theorem l00In_c (n l h : Int) (w : World) : Calls Try.prog 49 #[.int .i64 n, .int .i64 l, .int .i64 h] w (Same (.bool (inB n l h)) w) := by
  refine hide_same fun v H => ?_
  go_enter Try.func49, Try.ntmps49
  go_wp2
  all_goals go_ret
  all_goals (refine Same.mk ?_; rw [← H.out]; simp [inB, *] <;> omega)
set_option maxHeartbeats 400000 in
theorem abs_c (n : Int) (h : -9000000000000000000 ≤ n) (w : World) : Calls Try.prog 53 #[.int .i64 n] w (Same (.int .i64 (absI n)) w) := by
  refine hide_same fun v H => ?_
  go_enter Try.func53, Try.ntmps53
  go_wp2
  all_goals go_ret
  all_goals (refine Same.mk ?_; rw [← H.out]; simp [absI, *] <;> omega)
set_option maxHeartbeats 400000 in
theorem l02Size_c (n : Int) (h : -9000000000000000000 ≤ n) (w : World) : Calls Try.prog 51 #[.int .i64 n] w (Same (.int .i64 (absI n)) w) := by
  refine hide_same fun v H => ?_
  go_enter Try.func51, Try.ntmps51
  go_wp2
  all_goals go_ret
  all_goals (refine Same.mk ?_; rw [← H.out]; simp [absI, *] <;> omega)
set_option maxHeartbeats 400000 in
theorem l00Min_c (a b : Int) (w : World) : Calls Try.prog 57 #[.int .i64 a, .int .i64 b] w (Same (.int .i64 (minI a b)) w) := by
  refine hide_same fun v H => ?_
  go_enter Try.func57, Try.ntmps57
  go_wp2
  all_goals go_ret
  all_goals (refine Same.mk ?_; rw [← H.out]; simp [minI, *] <;> omega)
set_option maxHeartbeats 400000 in
theorem ValidMag_c (t : Int) (w : World) : Calls Try.prog 62 #[.int .i64 t] w (Same (.bool (magB t)) w) := by
  refine hide_same fun v H => ?_
  go_enter Try.func62, Try.ntmps62
  go_wp2_with (first | (go_at_call 48; refine (in_c _ _ _ _).mono ?_; rintro ee ww ⟨rfl, rfl⟩))
  all_goals go_ret
  all_goals (refine Same.mk ?_; rw [← H.out]; rfl)
set_option maxHeartbeats 400000 in
theorem l02Mag_c (t : Int) (w : World) : Calls Try.prog 59 #[.int .i64 t] w (Same (.bool (magB t)) w) := by
  refine hide_same fun v H => ?_
  go_enter Try.func59, Try.ntmps59
  go_wp2_with (first | (go_at_call 49; refine (l00In_c _ _ _ _).mono ?_; rintro ee ww ⟨rfl, rfl⟩))
  all_goals go_ret
  all_goals (refine Same.mk ?_; rw [← H.out]; rfl)
set_option maxHeartbeats 400000 in
theorem ValidTime_c (t : Int) (w : World) : Calls Try.prog 63 #[.int .i64 t] w (Same (.bool (timeB t)) w) := by
  refine hide_same fun v H => ?_
  go_enter Try.func63, Try.ntmps63
  go_wp2_with (first | (go_at_call 48; refine (in_c _ _ _ _).mono ?_; rintro ee ww ⟨rfl, rfl⟩))
  all_goals go_ret
  all_goals (refine Same.mk ?_; rw [← H.out]; rfl)
set_option maxHeartbeats 400000 in
theorem l06Time_c (t : Int) (w : World) : Calls Try.prog 60 #[.int .i64 t] w (Same (.bool (timeB t)) w) := by
  refine hide_same fun v H => ?_
  go_enter Try.func60, Try.ntmps60
  go_wp2_with (first | (go_at_call 49; refine (l00In_c _ _ _ _).mono ?_; rintro ee ww ⟨rfl, rfl⟩))
  all_goals go_ret
  all_goals (refine Same.mk ?_; rw [← H.out]; rfl)
set_option maxHeartbeats 400000 in
theorem l09Period_c (t : Int) (w : World) : Calls Try.prog 79 #[.int .i64 t] w (Same (.bool (inB t 1 1000000)) w) := by
  refine hide_same fun v H => ?_
  go_enter Try.func79, Try.ntmps79
  go_wp2_with (first | (go_at_call 49; refine (l00In_c _ _ _ _).mono ?_; rintro ee ww ⟨rfl, rfl⟩))
  all_goals go_ret
  all_goals (refine Same.mk ?_; exact H.out)

theorem tdiv_neg (a b : Int) (h : a < 0) (hb : 0 < b) : a.tdiv b ≤ 0 ∧ a ≤ a.tdiv b ∧ (if a.tmod b < 0 then a.tdiv b - 1 else a.tdiv b) = a / b := by
  have e1 : a.tdiv b = -((-a) / b) := by
    rw [show a = -(-a) by omega, Int.neg_tdiv, Int.tdiv_eq_ediv_of_nonneg (by omega), Int.neg_neg]
  have e2 : a.tmod b = -((-a) % b) := by
    rw [show a = -(-a) by omega, Int.neg_tmod, Int.tmod_eq_emod_of_nonneg (by omega), Int.neg_neg]
  have q0 := Int.ediv_nonneg (show 0 ≤ -a by omega) (show 0 ≤ b by omega)
  have q1 := Int.ediv_le_self b (show 0 ≤ -a by omega)
  have d0 := Int.emod_nonneg (-a) (show b ≠ 0 by omega)
  have d1 := Int.emod_lt_of_pos (-a) hb
  have d2 := Int.emod_add_mul_ediv (-a) b
  refine ⟨by omega, by omega, ?_⟩
  rw [e1, e2]
  generalize hq : (-a) / b = q at *
  generalize hr : (-a) % b = r at *
  have ea : a = -r + (-q) * b := by rw [Int.neg_mul, Int.mul_comm q b]; omega
  rw [ea, Int.add_mul_ediv_right _ _ (by omega)]
  split
  · rw [show -r = (b - r) + (-1) * b by omega, Int.add_mul_ediv_right _ _ (by omega), Int.ediv_eq_zero_of_lt (by omega) (by omega)]; omega
  · rw [show r = 0 by omega]; simp

set_option maxHeartbeats 400000 in
theorem floorDiv_c (a b : Int) (h1 : -9100000000000000000 ≤ a) (h2 : a ≤ 9100000000000000000) (h3 : 0 < b) (w : World) :
    Calls Try.prog 86 #[.int .i64 a, .int .i64 b] w (Same (.int .i64 (a / b)) w) := by
  refine hide_same fun v H => ?_
  have hb : ¬ b = 0 := by omega
  by_cases ha : 0 ≤ a
  · have hr := Int.emod_nonneg a (show b ≠ 0 by omega)
    go_enter Try.func86, Try.ntmps86
    go_wp2
    all_goals go_ret
    all_goals (refine Same.mk ?_; rw [← H.out]; rfl)
  · obtain ⟨q0, q1, q2⟩ := tdiv_neg a b (by omega) h3
    have Q2 := Lib.hid q2
    clear q2
    go_enter Try.func86, Try.ntmps86
    go_wp2
    all_goals go_ret
    · refine Same.mk ?_; rw [← H.out, ← Q2.out, if_pos ‹_›]; rfl
    · refine Same.mk ?_; rw [← H.out, ← Q2.out, if_neg (by omega)]; rfl
set_option maxHeartbeats 400000 in
theorem l02Floor_c (a b : Int) (h1 : -9100000000000000000 ≤ a) (h2 : a ≤ 9100000000000000000) (h3 : 0 < b) (w : World) :
    Calls Try.prog 85 #[.int .i64 a, .int .i64 b] w (Same (.int .i64 (a / b)) w) := by
  refine hide_same fun v H => ?_
  have hb : ¬ b = 0 := by omega
  by_cases ha : 0 ≤ a
  · have hr := Int.emod_nonneg a (show b ≠ 0 by omega)
    go_enter Try.func85, Try.ntmps85
    go_wp2
    all_goals go_ret
    all_goals (refine Same.mk ?_; rw [← H.out]; rfl)
  · obtain ⟨q0, q1, q2⟩ := tdiv_neg a b (by omega) h3
    have Q2 := Lib.hid q2
    clear q2
    go_enter Try.func85, Try.ntmps85
    go_wp2
    all_goals go_ret
    · refine Same.mk ?_; rw [← H.out, ← Q2.out, if_pos ‹_›]; rfl
    · refine Same.mk ?_; rw [← H.out, ← Q2.out, if_neg (by omega)]; rfl
set_option maxHeartbeats 400000 in
theorem mod_c (a b : Int) (h1 : -4000000000000000000 ≤ a) (h2 : a ≤ 4000000000000000000) (h3 : 0 < b) (h4 : b ≤ 4000000000000000000) (w : World) :
    Calls Try.prog 88 #[.int .i64 a, .int .i64 b] w (Same (.int .i64 (a % b)) w) := by
  refine hide_same fun v H => ?_
  have e : a % b = a - a / b * b := by have := Int.emod_add_mul_ediv a b; rw [Int.mul_comm]; omega
  have r0 := Int.emod_nonneg a (show b ≠ 0 by omega)
  have r1 := Int.emod_lt_of_pos a h3
  have b1 : a - b < a / b * b := by omega
  have b2 : a / b * b ≤ a := by omega
  rw [e] at H
  clear e r0 r1
  go_enter Try.func88, Try.ntmps88
  go_wp2_with (first | (go_at_call 86; refine (floorDiv_c _ _ (by omega) (by omega) (by omega) _).mono ?_; rintro ee ww ⟨rfl, rfl⟩))
  all_goals go_ret
  all_goals (refine Same.mk ?_; exact H.out)
set_option maxHeartbeats 400000 in
theorem nearest_c (a b : Int) (h1 : -9000000000000000000 ≤ a) (h2 : a ≤ 9000000000000000000) (h3 : 0 < b) (h4 : b ≤ 200000000000000000) (w : World) :
    Calls Try.prog 78 #[.int .i64 a, .int .i64 b] w (Same (.int .i64 (roundI a b)) w) := by
  refine hide_same fun v H => ?_
  have e : a % b = a - a / b * b := by have := Int.emod_add_mul_ediv a b; rw [Int.mul_comm]; omega
  have r0 := Int.emod_nonneg a (show b ≠ 0 by omega)
  have r1 := Int.emod_lt_of_pos a h3
  have b1 : a - b < a / b * b := by omega
  have b2 : a / b * b ≤ a := by omega
  have b3 : -9000000000000000000 ≤ a / b := by
    rcases Int.le_total 0 a with h | h
    · have := Int.ediv_nonneg h (show 0 ≤ b by omega); omega
    · obtain ⟨q0, q1, q2⟩ : a / b * b ≤ 0 ∧ a - b < a / b * b ∧ (a / b ≤ 0 → a / b * b ≤ a / b * 1) := ⟨by omega, b1, fun h => Int.mul_le_mul_of_nonpos_left h (by omega)⟩
      by_cases hq : a / b ≤ 0
      · by_cases h9 : -9000000000000000000 ≤ a / b
        · exact h9
        · exfalso
          have := Int.mul_le_mul_of_nonneg_right (show a / b ≤ -9000000000000000001 by omega) (show 0 ≤ b by omega)
          by_cases hb1 : b = 1
          · subst hb1; rw [Int.mul_one] at b1; omega
          · have := Int.mul_le_mul_of_nonpos_left (show (-9000000000000000001 : Int) ≤ 0 by omega) (show 2 ≤ b by omega); omega
      · omega
  have b4 : a / b ≤ 9000000000000000000 := by
    by_cases h9 : 0 ≤ a / b
    · have := Int.mul_le_mul_of_nonneg_left (show 1 ≤ b by omega) h9; omega
    · omega
  rw [roundI_eq a b h3] at H
  clear e r0 r1
  go_enter Try.func78, Try.ntmps78
  go_wp2_with (first | (go_at_call 86; refine (floorDiv_c _ _ (by omega) (by omega) (by omega) _).mono ?_; rintro ee ww ⟨rfl, rfl⟩))
  all_goals go_ret
  · refine Same.mk ?_; rw [← H.out, if_pos (by omega)]; rfl
  · refine Same.mk ?_; rw [← H.out, if_neg (by omega)]; rfl
set_option maxHeartbeats 400000 in
theorem l02Round_c (a b : Int) (h1 : -2000000000000000000 ≤ a) (h2 : a ≤ 2000000000000000000) (h3 : 0 < b) (h4 : b ≤ 2000000000000000000) (w : World) :
    Calls Try.prog 77 #[.int .i64 a, .int .i64 b] w (Same (.int .i64 (roundI a b)) w) := by
  refine hide_same fun v H => ?_
  go_enter Try.func77, Try.ntmps77
  go_wp2_with (first | (go_at_call 85; refine (l02Floor_c _ _ (by omega) (by omega) (by omega) _).mono ?_; rintro ee ww ⟨rfl, rfl⟩))
  all_goals go_ret
  all_goals (refine Same.mk ?_; exact H.out)
set_option maxHeartbeats 400000 in
theorem gcd_c (a b : Int) (h1 : -9000000000000000000 ≤ a) (h2 : a ≤ 9000000000000000000) (h3 : -9000000000000000000 ≤ b) (h4 : b ≤ 9000000000000000000) (w : World) :
    Calls Try.prog 81 #[.int .i64 a, .int .i64 b] w (Ret (.int .i64 (gcdI a b)) w) := by
  refine hide_ret fun v H => ?_
  go_enter Try.func81, Try.ntmps81
  go_wp2
  go_loopw [0, 1] (fun x y wr => ∃ p q : Int, x = .int .i64 p ∧ y = .int .i64 q ∧ -9000000000000000000 ≤ p ∧ p ≤ 9000000000000000000 ∧ -9000000000000000000 ≤ q ∧ q ≤ 9000000000000000000 ∧ (∃ g, wr = ext w g) ∧ Hid (Value.int .i64 (gcdI p q) = v)) (fun _ y _ => (intOf y).natAbs)
  case atStart => exact ⟨a, b, rfl, rfl, h1, h2, h3, h4, ext_ex (Bel.refl _), H⟩
  case round =>
    obtain ⟨p, q, rfl, rfl, p1, p2, q1, q2, ⟨g, rfl⟩, hv⟩ := hrel
    by_cases hq : q = 0
    · have Hq := Lib.hid hq
      have hq' : (q != 0) = false := by simp [hq]
      clear hq
      go_wp2_with (first | (go_at_call 53; refine (abs_c _ (by omega) _).mono ?_; rintro ee ww ⟨rfl, rfl⟩))
      all_goals go_ret
      refine Ret.mk ?_ (?_ : Bel _ _)
      · rw [← hv.out, Hq.out, gcdI_zero]; rfl
      · (repeat (first | with_reducible exact Bel.refl _ | with_reducible assumption | apply Bel.ext | apply Bel.alloc | apply Bel.drew | exact Bel.refl _ | refine Bel.set ?_ (by first | (simp; done) | (simp [go_sem]; done) | omega) _))
    · have hq' : (q != 0) = true := by simp [hq]
      have t3 : (p.tmod q).natAbs < q.natAbs := by rw [Int.natAbs_tmod]; exact Nat.mod_lt _ (by omega)
      have t1 : -9000000000000000000 ≤ p.tmod q := by omega
      have t2 : p.tmod q ≤ 9000000000000000000 := by omega
      have T3 := Lib.hid t3
      clear t3
      go_wp2
      refine region_ext (by kernel_rfl) (by kernel_rfl) ?_
      repeat (go_big_quiet_step (fail))
      refine wpQuiet_nil ?_
      rintro _ ⟨_, rfl⟩
      go_wp2
      go_roundw
      case rel => exact ⟨q, _, rfl, rfl, q1, q2, by first | exact t1 | (rw [← IntWalk.rem_in _ _ (by assumption)]; exact t1), by first | exact t2 | (rw [← IntWalk.rem_in _ _ (by assumption)]; exact t2), ext_ex (by (repeat (first | with_reducible exact Bel.refl _ | with_reducible assumption | apply Bel.ext | apply Bel.alloc | apply Bel.drew | exact Bel.refl _ | refine Bel.set ?_ (by first | (simp; done) | (simp [go_sem]; done) | omega) _)) : Bel _ _), Lib.hid (by rw [gcdI_step]; exact hv.out)⟩
      case measure => exact T3.out
set_option maxHeartbeats 400000 in
theorem l02Gcd_c (a b : Int) (h1 : 0 ≤ a) (h2 : a ≤ 9000000000000000000) (h3 : 0 ≤ b) (h4 : b ≤ 9000000000000000000) (w : World) :
    Calls Try.prog 80 #[.int .i64 a, .int .i64 b] w (Same (.int .i64 (gcdI a b)) w) := by
  refine hide_same fun v H => ?_
  go_enter Try.func80, Try.ntmps80
  go_wp2
  go_loopw [0, 1, 5] (fun x y _ wr => ∃ p q : Int, x = .int .i64 p ∧ y = .int .i64 q ∧ 0 ≤ p ∧ p ≤ 9000000000000000000 ∧ 0 ≤ q ∧ q ≤ 9000000000000000000 ∧ w = wr ∧ Hid (Value.int .i64 (gcdI p q) = v)) (fun _ y _ _ => (intOf y).toNat)
  case atStart => exact ⟨a, b, rfl, rfl, h1, h2, h3, h4, rfl, H⟩
  case round =>
    obtain ⟨p, q, rfl, rfl, p1, p2, q1, q2, rfl, hv⟩ := hrel
    by_cases hq : q = 0
    · have Hq := Lib.hid hq
      have hq' : (q != 0) = false := by simp [hq]
      clear hq
      go_wp2
      go_ret
      refine Same.mk ?_
      rw [← hv.out, Hq.out, gcdI_zero]; simp [absI]; omega
    · have hq' : (q != 0) = true := by simp [hq]
      have t1 : 0 ≤ p % q := Int.emod_nonneg _ hq
      have t2 : p % q < q := Int.emod_lt_of_pos _ (by omega)
      go_wp2
      go_roundw
      case rel => exact ⟨q, p % q, rfl, rfl, q1, q2, t1, by omega, by trivial, Lib.hid (by rw [← Int.tmod_eq_emod_of_nonneg p1, gcdI_step]; exact hv.out)⟩
      case measure => simp [intOf]; omega
theorem gcdI_neg (a b : Int) : gcdI (-a) (-b) = gcdI a b := by unfold gcdI; simp
theorem tdiv_in (n g : Int) (h : 1 ≤ g) (h1 : -9000000000000000000 ≤ n) (h2 : n ≤ 9000000000000000000) : IntKind.i64.wrap (n.tdiv g) = n.tdiv g :=
  IntWalk.i64_quo' n g ⟨by omega, by omega, h⟩
/-- a fraction in lowest terms: its numerator, its denominator -/
def fracN (n d : Int) : Int := n.tdiv (gcdI n d)
def fracD (n d : Int) : Int := d / gcdI n d

set_option maxHeartbeats 1000000 in
theorem lowest_c (n d : Int) (h1 : -9000000000000000000 ≤ n) (h2 : n ≤ 9000000000000000000) (h3 : 0 < d) (h4 : d ≤ 9000000000000000000) (w : World) :
    Calls Try.prog 58 #[.int .i64 n, .int .i64 d] w (Ret (.agg #[.int .i64 (fracN n d), .int .i64 (fracD n d)]) w) := by
  refine hide_ret fun v H => ?_
  have hg := gcdI_pos n d (by omega)
  have hg0 : ¬ gcdI n d = 0 := by omega
  have e0 := tdiv_in n (gcdI n d) hg h1 h2
  have e1 : IntKind.i64.wrap (d.tdiv (gcdI n d)) = d / gcdI n d := IntWalk.i64_quo _ _ ⟨by omega, by omega, hg⟩
  have h0 : ¬ d < 0 := by omega
  unfold fracN fracD at H
  go_enter Try.func58, Try.ntmps58
  go_wp2_with (first | (go_at_call 81; refine (gcd_c _ _ (by omega) (by omega) (by omega) (by omega) _).mono ?_; rintro ee ww ⟨rfl, _, rfl⟩))
  go_region_held3 (fun _ => True) (trivial) (fail)
  all_goals go_wp2
  refine bodyPost_ret (v := .agg #[.int .i64 (n.tdiv (gcdI n d)), .int .i64 (d / gcdI n d)]) (by simp (maxDischargeDepth := 8) [results, Try.results58, go_sem]) rfl (Ret.mk ?_ (?_ : Bel _ _))
  · exact H.out
  · (repeat (first | with_reducible exact Bel.refl _ | with_reducible assumption | apply Bel.ext | apply Bel.alloc | apply Bel.drew | exact Bel.refl _ | refine Bel.set ?_ (by first | (simp; done) | (simp [go_sem]; done) | omega) _))
set_option maxHeartbeats 1000000 in
theorem lowestN_c (n d : Int) (h1 : -9000000000000000000 ≤ n) (h2 : n ≤ 9000000000000000000) (h3 : d < 0) (h4 : -9000000000000000000 ≤ d) (w : World) :
    Calls Try.prog 58 #[.int .i64 n, .int .i64 d] w (Ret (.agg #[.int .i64 (fracN (-n) (-d)), .int .i64 (fracD (-n) (-d))]) w) := by
  refine hide_ret fun v H => ?_
  have hg := gcdI_pos n d (by omega)
  have hgl := gcdI_le (-n) (-d) (by omega)
  unfold fracN fracD at H
  rw [gcdI_neg, Int.neg_tdiv] at H
  rw [gcdI_neg] at hgl
  have hg0 : ¬ -gcdI n d = 0 := by omega
  have e0 : IntKind.i64.wrap (-n.tdiv (gcdI n d)) = -n.tdiv (gcdI n d) := by
    rw [← Int.neg_tdiv]; exact tdiv_in (-n) (gcdI n d) hg (by omega) (by omega)
  have e1 : IntKind.i64.wrap (-d.tdiv (gcdI n d)) = (-d) / gcdI n d := by
    rw [← Int.neg_tdiv]; exact IntWalk.i64_quo _ _ ⟨by omega, by omega, hg⟩
  go_enter Try.func58, Try.ntmps58
  go_wp2_with (first | (go_at_call 81; refine (gcd_c _ _ (by omega) (by omega) (by omega) (by omega) _).mono ?_; rintro ee ww ⟨rfl, _, rfl⟩))
  go_region_held3 (fun _ => True) (trivial) (fail)
  all_goals go_wp2
  refine bodyPost_ret (v := .agg #[.int .i64 (-n.tdiv (gcdI n d)), .int .i64 ((-d) / gcdI n d)]) (by simp (maxDischargeDepth := 8) [results, Try.results58, go_sem]) rfl (Ret.mk ?_ (?_ : Bel _ _))
  · exact H.out
  · (repeat (first | with_reducible exact Bel.refl _ | with_reducible assumption | apply Bel.ext | apply Bel.alloc | apply Bel.drew | exact Bel.refl _ | refine Bel.set ?_ (by first | (simp; done) | (simp [go_sem]; done) | omega) _))
set_option maxHeartbeats 1000000 in
theorem l02Make_c (n d : Int) (h1 : -9000000000000000000 ≤ n) (h2 : n ≤ 9000000000000000000) (h3 : 0 < d) (h4 : d ≤ 9000000000000000000) (w : World) :
    Calls Try.prog 56 #[.int .i64 n, .int .i64 d] w (Ret (.agg #[.int .i64 (fracN n d), .int .i64 (fracD n d)]) w) := by
  refine hide_ret fun v H => ?_
  have hg := gcdI_pos n d (by omega)
  have ha : 0 ≤ absI n ∧ absI n ≤ 9000000000000000000 := by unfold absI; omega
  unfold fracN fracD at H
  rw [← gcdI_abs] at H hg
  have hg0 : ¬ gcdI (absI n) d = 0 := by omega
  have e0 := tdiv_in n (gcdI (absI n) d) hg h1 h2
  have e1 : IntKind.i64.wrap (d.tdiv (gcdI (absI n) d)) = d / gcdI (absI n) d := IntWalk.i64_quo _ _ ⟨by omega, by omega, hg⟩
  go_enter Try.func56, Try.ntmps56
  go_wp2_with (first | (go_at_call 51; refine (l02Size_c _ (by omega) _).mono ?_; rintro ee ww ⟨rfl, rfl⟩) | (go_at_call 80; refine (l02Gcd_c _ _ (by omega) (by omega) (by omega) (by omega) _).mono ?_; rintro ee ww ⟨rfl, rfl⟩))
  go_region_held3 (fun _ => True) (trivial) (fail)
  all_goals go_wp2
  refine bodyPost_ret (v := .agg #[.int .i64 (n.tdiv (gcdI (absI n) d)), .int .i64 (d / gcdI (absI n) d)]) (by simp (maxDischargeDepth := 8) [results, Try.results56, go_sem]) rfl (Ret.mk ?_ (?_ : Bel _ _))
  · exact H.out
  · (repeat (first | with_reducible exact Bel.refl _ | with_reducible assumption | apply Bel.ext | apply Bel.alloc | apply Bel.drew | exact Bel.refl _ | refine Bel.set ?_ (by first | (simp; done) | (simp [go_sem]; done) | omega) _))
end Go.Proofs.Ytjdcdcfhnpephaa
