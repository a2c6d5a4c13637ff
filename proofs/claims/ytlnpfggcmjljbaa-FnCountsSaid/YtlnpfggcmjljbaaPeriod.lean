/- The period between two minima: what both sides return. -/
import Derived.Test.YtlnpfggcmjljbaaMinima
namespace Go.Proofs.Ytlnpfggcmjljbaa
open Go.RowKit

def perI (a b c d : Int) : Int × Int × Int :=
  if !minB a b || !minB c d then (0, 0, 2) else if a = c then (0, 0, 6) else if c < a then (fracN (b - d) (a - c), fracD (b - d) (a - c), 0) else (fracN (d - b) (c - a), fracD (d - b) (c - a), 0)
set_option maxHeartbeats 2000000 in
theorem PeriodBetween_c (a b c d : Int) (w : World) :
    Calls Try.prog 23 #[.agg #[.int .i64 a, .int .i64 b], .agg #[.int .i64 c, .int .i64 d]] w (Ret (.tuple #[.agg #[.int .i64 (perI a b c d).1, .int .i64 (perI a b c d).2.1], .int .i64 (perI a b c d).2.2]) w) := by
  refine hide_ret fun v H => ?_
  rcases h1 : minB a b with _ | _ <;> rcases h2 : minB c d with _ | _ <;> simp only [perI, h1, h2, Bool.not_true, Bool.not_false, Bool.true_or, Bool.or_true, Bool.false_or, Bool.or_false, Bool.true_and, Bool.and_true, Bool.false_and, Bool.and_false, if_true, if_false, Bool.false_eq_true] at H
  case true.true =>
    obtain ⟨a1, a2, b1, b2⟩ := minB_iff.1 h1
    obtain ⟨c1, c2, d1, d2⟩ := minB_iff.1 h2
    by_cases he : a = c
    · rw [if_pos he] at H
      have he' : (a == c) = true := by simp [he]
      clear he
      go_enter Try.func23, Try.ntmps23
      go_wp2_with (first | (go_at_call 51; refine (isMinimum_c _ _ _).mono ?_; rintro ee ww ⟨rfl, _, rfl⟩))
      all_goals (try ((refine region_ext (by kernel_rfl) (by kernel_rfl) ?_; (repeat (go_big_quiet_step (first | (go_at_call 51; exact Calls.in_ret (isMinimum_c _ _ _))))); refine wpQuiet_nil ?_; rintro _ ⟨_, rfl⟩); go_wp2_with (first | (go_at_call 51; refine (isMinimum_c _ _ _).mono ?_; rintro ee ww ⟨rfl, _, rfl⟩))))
      all_goals (try ((refine region_ext (by kernel_rfl) (by kernel_rfl) ?_; (repeat (go_big_quiet_step (first | (go_at_call 51; exact Calls.in_ret (isMinimum_c _ _ _))))); refine wpQuiet_nil ?_; rintro _ ⟨_, rfl⟩); go_wp2_with (first | (go_at_call 51; refine (isMinimum_c _ _ _).mono ?_; rintro ee ww ⟨rfl, _, rfl⟩))))
      refine bodyPost_ret (v := .tuple #[.agg #[.int .i64 0, .int .i64 0], .int .i64 6]) (by simp (maxDischargeDepth := 8) [results, Try.results23, go_sem]) rfl (Ret.mk ?_ (?_ : Bel _ _))
      · exact H.out
      · (repeat (first | exact Bel.refl _ | apply Bel.ext | apply Bel.alloc | apply Bel.drew | refine Bel.set ?_ (by first | (simp; done) | (simp [go_sem]; done) | omega) _))
    · rw [if_neg he] at H
      have he' : (a == c) = false := by simp [he]
      by_cases hlt : c < a
      · rw [if_pos hlt, show b - d = -(d - b) from by omega, show a - c = -(c - a) from by omega] at H
        go_enter Try.func23, Try.ntmps23
        go_wp2_with (first | (go_at_call 51; refine (isMinimum_c _ _ _).mono ?_; rintro ee ww ⟨rfl, _, rfl⟩) | (go_at_call 55; refine (lowestN_c _ _ (by omega) (by omega) (by omega) (by omega) _).mono ?_; rintro ee ww ⟨rfl, _, rfl⟩))
        all_goals (try ((refine region_ext (by kernel_rfl) (by kernel_rfl) ?_; (repeat (go_big_quiet_step (first | (go_at_call 51; exact Calls.in_ret (isMinimum_c _ _ _)) | (go_at_call 55; exact Calls.in_ret (lowestN_c _ _ (by omega) (by omega) (by omega) (by omega) _))))); refine wpQuiet_nil ?_; rintro _ ⟨_, rfl⟩); go_wp2_with (first | (go_at_call 51; refine (isMinimum_c _ _ _).mono ?_; rintro ee ww ⟨rfl, _, rfl⟩) | (go_at_call 55; refine (lowestN_c _ _ (by omega) (by omega) (by omega) (by omega) _).mono ?_; rintro ee ww ⟨rfl, _, rfl⟩))))
        all_goals (try ((refine region_ext (by kernel_rfl) (by kernel_rfl) ?_; (repeat (go_big_quiet_step (first | (go_at_call 51; exact Calls.in_ret (isMinimum_c _ _ _)) | (go_at_call 55; exact Calls.in_ret (lowestN_c _ _ (by omega) (by omega) (by omega) (by omega) _))))); refine wpQuiet_nil ?_; rintro _ ⟨_, rfl⟩); go_wp2_with (first | (go_at_call 51; refine (isMinimum_c _ _ _).mono ?_; rintro ee ww ⟨rfl, _, rfl⟩) | (go_at_call 55; refine (lowestN_c _ _ (by omega) (by omega) (by omega) (by omega) _).mono ?_; rintro ee ww ⟨rfl, _, rfl⟩))))
        refine bodyPost_ret (v := .tuple #[.agg #[.int .i64 (fracN (-(d - b)) (-(c - a))), .int .i64 (fracD (-(d - b)) (-(c - a)))], .int .i64 0]) (by simp (maxDischargeDepth := 8) [results, Try.results23, go_sem]) rfl (Ret.mk ?_ (?_ : Bel _ _))
        · exact H.out
        · (repeat (first | exact Bel.refl _ | apply Bel.ext | apply Bel.alloc | apply Bel.drew | refine Bel.set ?_ (by first | (simp; done) | (simp [go_sem]; done) | omega) _))
      · rw [if_neg hlt] at H
        go_enter Try.func23, Try.ntmps23
        go_wp2_with (first | (go_at_call 51; refine (isMinimum_c _ _ _).mono ?_; rintro ee ww ⟨rfl, _, rfl⟩) | (go_at_call 55; refine (lowest_c _ _ (by omega) (by omega) (by omega) (by omega) _).mono ?_; rintro ee ww ⟨rfl, _, rfl⟩))
        all_goals (try ((refine region_ext (by kernel_rfl) (by kernel_rfl) ?_; (repeat (go_big_quiet_step (first | (go_at_call 51; exact Calls.in_ret (isMinimum_c _ _ _)) | (go_at_call 55; exact Calls.in_ret (lowest_c _ _ (by omega) (by omega) (by omega) (by omega) _))))); refine wpQuiet_nil ?_; rintro _ ⟨_, rfl⟩); go_wp2_with (first | (go_at_call 51; refine (isMinimum_c _ _ _).mono ?_; rintro ee ww ⟨rfl, _, rfl⟩) | (go_at_call 55; refine (lowest_c _ _ (by omega) (by omega) (by omega) (by omega) _).mono ?_; rintro ee ww ⟨rfl, _, rfl⟩))))
        all_goals (try ((refine region_ext (by kernel_rfl) (by kernel_rfl) ?_; (repeat (go_big_quiet_step (first | (go_at_call 51; exact Calls.in_ret (isMinimum_c _ _ _)) | (go_at_call 55; exact Calls.in_ret (lowest_c _ _ (by omega) (by omega) (by omega) (by omega) _))))); refine wpQuiet_nil ?_; rintro _ ⟨_, rfl⟩); go_wp2_with (first | (go_at_call 51; refine (isMinimum_c _ _ _).mono ?_; rintro ee ww ⟨rfl, _, rfl⟩) | (go_at_call 55; refine (lowest_c _ _ (by omega) (by omega) (by omega) (by omega) _).mono ?_; rintro ee ww ⟨rfl, _, rfl⟩))))
        refine bodyPost_ret (v := .tuple #[.agg #[.int .i64 (fracN (d - b) (c - a)), .int .i64 (fracD (d - b) (c - a))], .int .i64 0]) (by simp (maxDischargeDepth := 8) [results, Try.results23, go_sem]) rfl (Ret.mk ?_ (?_ : Bel _ _))
        · exact H.out
        · (repeat (first | exact Bel.refl _ | apply Bel.ext | apply Bel.alloc | apply Bel.drew | refine Bel.set ?_ (by first | (simp; done) | (simp [go_sem]; done) | omega) _))
  all_goals
    go_enter Try.func23, Try.ntmps23
    go_wp2_with (first | (go_at_call 51; refine (isMinimum_c _ _ _).mono ?_; rintro ee ww ⟨rfl, _, rfl⟩))
    all_goals (try ((refine region_ext (by kernel_rfl) (by kernel_rfl) ?_; (repeat (go_big_quiet_step (first | (go_at_call 51; exact Calls.in_ret (isMinimum_c _ _ _))))); refine wpQuiet_nil ?_; rintro _ ⟨_, rfl⟩); go_wp2_with (first | (go_at_call 51; refine (isMinimum_c _ _ _).mono ?_; rintro ee ww ⟨rfl, _, rfl⟩))))
    all_goals (try ((refine region_ext (by kernel_rfl) (by kernel_rfl) ?_; (repeat (go_big_quiet_step (first | (go_at_call 51; exact Calls.in_ret (isMinimum_c _ _ _))))); refine wpQuiet_nil ?_; rintro _ ⟨_, rfl⟩); go_wp2_with (first | (go_at_call 51; refine (isMinimum_c _ _ _).mono ?_; rintro ee ww ⟨rfl, _, rfl⟩))))
    refine bodyPost_ret (v := .tuple #[.agg #[.int .i64 0, .int .i64 0], .int .i64 2]) (by simp (maxDischargeDepth := 8) [results, Try.results23, go_sem]) rfl (Ret.mk ?_ (?_ : Bel _ _))
    · exact H.out
    · (repeat (first | exact Bel.refl _ | apply Bel.ext | apply Bel.alloc | apply Bel.drew | refine Bel.set ?_ (by first | (simp; done) | (simp [go_sem]; done) | omega) _))
set_option maxHeartbeats 2000000 in
theorem sPeriodBetween_c (a b c d : Int) (w : World) :
    Calls Try.prog 28 #[.agg #[.int .i64 a, .int .i64 b], .agg #[.int .i64 c, .int .i64 d]] w (Ret (.tuple #[.agg #[.int .i64 (perI a b c d).1, .int .i64 (perI a b c d).2.1], .int .i64 (perI a b c d).2.2]) w) := by
  refine hide_ret fun v H => ?_
  rcases h1 : minB a b with _ | _ <;> rcases h2 : minB c d with _ | _ <;> simp only [perI, h1, h2, Bool.not_true, Bool.not_false, Bool.true_or, Bool.or_true, Bool.false_or, Bool.or_false, Bool.true_and, Bool.and_true, Bool.false_and, Bool.and_false, if_true, if_false, Bool.false_eq_true] at H
  case true.true =>
    obtain ⟨a1, a2, b1, b2⟩ := minB_iff.1 h1
    obtain ⟨c1, c2, d1, d2⟩ := minB_iff.1 h2
    by_cases he : a = c
    · rw [if_pos he] at H
      have he' : (a == c) = true := by simp [he]
      clear he
      go_enter Try.func28, Try.ntmps28
      go_wp2_with (first | (go_at_call 59; refine (l13One_c _ _ _).mono ?_; rintro ee ww ⟨rfl, _, rfl⟩))
      all_goals (try ((refine region_ext (by kernel_rfl) (by kernel_rfl) ?_; (repeat (go_big_quiet_step (first | (go_at_call 59; exact Calls.in_ret (l13One_c _ _ _))))); refine wpQuiet_nil ?_; rintro _ ⟨_, rfl⟩); go_wp2_with (first | (go_at_call 59; refine (l13One_c _ _ _).mono ?_; rintro ee ww ⟨rfl, _, rfl⟩))))
      all_goals (try ((refine region_ext (by kernel_rfl) (by kernel_rfl) ?_; (repeat (go_big_quiet_step (first | (go_at_call 59; exact Calls.in_ret (l13One_c _ _ _))))); refine wpQuiet_nil ?_; rintro _ ⟨_, rfl⟩); go_wp2_with (first | (go_at_call 59; refine (l13One_c _ _ _).mono ?_; rintro ee ww ⟨rfl, _, rfl⟩))))
      refine bodyPost_ret (v := .tuple #[.agg #[.int .i64 0, .int .i64 0], .int .i64 6]) (by simp (maxDischargeDepth := 8) [results, Try.results28, go_sem]) rfl (Ret.mk ?_ (?_ : Bel _ _))
      · exact H.out
      · (repeat (first | exact Bel.refl _ | apply Bel.ext | apply Bel.alloc | apply Bel.drew | refine Bel.set ?_ (by first | (simp; done) | (simp [go_sem]; done) | omega) _))
    · rw [if_neg he] at H
      have he' : (a == c) = false := by simp [he]
      by_cases hlt : c < a
      · rw [if_pos hlt] at H
        go_enter Try.func28, Try.ntmps28
        go_wp2_with (first | (go_at_call 59; refine (l13One_c _ _ _).mono ?_; rintro ee ww ⟨rfl, _, rfl⟩) | (go_at_call 60; refine (l02Make_c _ _ (by omega) (by omega) (by omega) (by omega) _).mono ?_; rintro ee ww ⟨rfl, _, rfl⟩))
        all_goals (try ((refine region_ext (by kernel_rfl) (by kernel_rfl) ?_; (repeat (go_big_quiet_step (first | (go_at_call 59; exact Calls.in_ret (l13One_c _ _ _)) | (go_at_call 60; exact Calls.in_ret (l02Make_c _ _ (by omega) (by omega) (by omega) (by omega) _))))); refine wpQuiet_nil ?_; rintro _ ⟨_, rfl⟩); go_wp2_with (first | (go_at_call 59; refine (l13One_c _ _ _).mono ?_; rintro ee ww ⟨rfl, _, rfl⟩) | (go_at_call 60; refine (l02Make_c _ _ (by omega) (by omega) (by omega) (by omega) _).mono ?_; rintro ee ww ⟨rfl, _, rfl⟩))))
        all_goals (try ((refine region_ext (by kernel_rfl) (by kernel_rfl) ?_; (repeat (go_big_quiet_step (first | (go_at_call 59; exact Calls.in_ret (l13One_c _ _ _)) | (go_at_call 60; exact Calls.in_ret (l02Make_c _ _ (by omega) (by omega) (by omega) (by omega) _))))); refine wpQuiet_nil ?_; rintro _ ⟨_, rfl⟩); go_wp2_with (first | (go_at_call 59; refine (l13One_c _ _ _).mono ?_; rintro ee ww ⟨rfl, _, rfl⟩) | (go_at_call 60; refine (l02Make_c _ _ (by omega) (by omega) (by omega) (by omega) _).mono ?_; rintro ee ww ⟨rfl, _, rfl⟩))))
        refine bodyPost_ret (v := .tuple #[.agg #[.int .i64 (fracN (b - d) (a - c)), .int .i64 (fracD (b - d) (a - c))], .int .i64 0]) (by simp (maxDischargeDepth := 8) [results, Try.results28, go_sem]) rfl (Ret.mk ?_ (?_ : Bel _ _))
        · exact H.out
        · (repeat (first | exact Bel.refl _ | apply Bel.ext | apply Bel.alloc | apply Bel.drew | refine Bel.set ?_ (by first | (simp; done) | (simp [go_sem]; done) | omega) _))
      · rw [if_neg hlt] at H
        go_enter Try.func28, Try.ntmps28
        go_wp2_with (first | (go_at_call 59; refine (l13One_c _ _ _).mono ?_; rintro ee ww ⟨rfl, _, rfl⟩) | (go_at_call 60; refine (l02Make_c _ _ (by omega) (by omega) (by omega) (by omega) _).mono ?_; rintro ee ww ⟨rfl, _, rfl⟩))
        all_goals (try ((refine region_ext (by kernel_rfl) (by kernel_rfl) ?_; (repeat (go_big_quiet_step (first | (go_at_call 59; exact Calls.in_ret (l13One_c _ _ _)) | (go_at_call 60; exact Calls.in_ret (l02Make_c _ _ (by omega) (by omega) (by omega) (by omega) _))))); refine wpQuiet_nil ?_; rintro _ ⟨_, rfl⟩); go_wp2_with (first | (go_at_call 59; refine (l13One_c _ _ _).mono ?_; rintro ee ww ⟨rfl, _, rfl⟩) | (go_at_call 60; refine (l02Make_c _ _ (by omega) (by omega) (by omega) (by omega) _).mono ?_; rintro ee ww ⟨rfl, _, rfl⟩))))
        all_goals (try ((refine region_ext (by kernel_rfl) (by kernel_rfl) ?_; (repeat (go_big_quiet_step (first | (go_at_call 59; exact Calls.in_ret (l13One_c _ _ _)) | (go_at_call 60; exact Calls.in_ret (l02Make_c _ _ (by omega) (by omega) (by omega) (by omega) _))))); refine wpQuiet_nil ?_; rintro _ ⟨_, rfl⟩); go_wp2_with (first | (go_at_call 59; refine (l13One_c _ _ _).mono ?_; rintro ee ww ⟨rfl, _, rfl⟩) | (go_at_call 60; refine (l02Make_c _ _ (by omega) (by omega) (by omega) (by omega) _).mono ?_; rintro ee ww ⟨rfl, _, rfl⟩))))
        refine bodyPost_ret (v := .tuple #[.agg #[.int .i64 (fracN (d - b) (c - a)), .int .i64 (fracD (d - b) (c - a))], .int .i64 0]) (by simp (maxDischargeDepth := 8) [results, Try.results28, go_sem]) rfl (Ret.mk ?_ (?_ : Bel _ _))
        · exact H.out
        · (repeat (first | exact Bel.refl _ | apply Bel.ext | apply Bel.alloc | apply Bel.drew | refine Bel.set ?_ (by first | (simp; done) | (simp [go_sem]; done) | omega) _))
  all_goals
    go_enter Try.func28, Try.ntmps28
    go_wp2_with (first | (go_at_call 59; refine (l13One_c _ _ _).mono ?_; rintro ee ww ⟨rfl, _, rfl⟩))
    all_goals (try ((refine region_ext (by kernel_rfl) (by kernel_rfl) ?_; (repeat (go_big_quiet_step (first | (go_at_call 59; exact Calls.in_ret (l13One_c _ _ _))))); refine wpQuiet_nil ?_; rintro _ ⟨_, rfl⟩); go_wp2_with (first | (go_at_call 59; refine (l13One_c _ _ _).mono ?_; rintro ee ww ⟨rfl, _, rfl⟩))))
    all_goals (try ((refine region_ext (by kernel_rfl) (by kernel_rfl) ?_; (repeat (go_big_quiet_step (first | (go_at_call 59; exact Calls.in_ret (l13One_c _ _ _))))); refine wpQuiet_nil ?_; rintro _ ⟨_, rfl⟩); go_wp2_with (first | (go_at_call 59; refine (l13One_c _ _ _).mono ?_; rintro ee ww ⟨rfl, _, rfl⟩))))
    refine bodyPost_ret (v := .tuple #[.agg #[.int .i64 0, .int .i64 0], .int .i64 2]) (by simp (maxDischargeDepth := 8) [results, Try.results28, go_sem]) rfl (Ret.mk ?_ (?_ : Bel _ _))
    · exact H.out
    · (repeat (first | exact Bel.refl _ | apply Bel.ext | apply Bel.alloc | apply Bel.drew | refine Bel.set ?_ (by first | (simp; done) | (simp [go_sem]; done) | omega) _))
end Go.Proofs.Ytlnpfggcmjljbaa
