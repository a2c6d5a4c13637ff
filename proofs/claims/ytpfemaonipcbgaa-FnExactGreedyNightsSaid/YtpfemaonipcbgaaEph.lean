/- What the small functions on ephemerides, and the laws' helpers on ephemerides and fractions, return. -/
import Derived.Test.YtpfemaonipcbgaaBase
namespace Go.Proofs.Ytpfemaonipcbgaa
open Go.RowKit

set_option maxHeartbeats 400000 in
theorem toEphemeris_c (a b : Int) (w : World) : Calls Try.prog 11 #[.agg #[.int .i64 a, .int .i64 b]] w (Ret (.agg #[.int .i64 a, .int .i64 b]) w) := by
  refine hide_ret fun v H => ?_
  go_enter Try.func11, Try.ntmps11
  go_wp2
  refine bodyPost_ret (v := .agg #[.int .i64 a, .int .i64 b]) (by simp (maxDischargeDepth := 8) [results, Try.results11, go_sem]) rfl (Ret.mk ?_ (?_ : Bel _ _))
  · exact H.out
  · (repeat (first | with_reducible exact Bel.refl _ | with_reducible assumption | apply Bel.ext | apply Bel.alloc | apply Bel.drew | exact Bel.refl _ | refine Bel.set ?_ (by first | (simp; done) | (simp [go_sem]; done) | omega) _))
set_option maxHeartbeats 400000 in
theorem ValidEphemeris_c (a b : Int) (w : World) : Calls Try.prog 60 #[.agg #[.int .i64 a, .int .i64 b]] w (Ret (.bool (ephB a b)) w) := by
  refine hide_ret fun v H => ?_
  go_enter Try.func60, Try.ntmps60
  go_wp2_with (first | (go_at_call 68; refine (ValidTime_c _ _).mono ?_; rintro ee ww ⟨rfl, rfl⟩) | (go_at_call 59; refine (in_c _ _ _ _).mono ?_; rintro ee ww ⟨rfl, rfl⟩))
  all_goals (try ((refine region_ext (by kernel_rfl) (by kernel_rfl) ?_; (repeat (go_big_quiet_step (first | (go_at_call 68; exact Calls.in_same (ValidTime_c _ _)) | (go_at_call 59; exact Calls.in_same (in_c _ _ _ _))))); refine wpQuiet_nil ?_; rintro _ ⟨_, rfl⟩); go_wp2_with (first | (go_at_call 68; refine (ValidTime_c _ _).mono ?_; rintro ee ww ⟨rfl, rfl⟩) | (go_at_call 59; refine (in_c _ _ _ _).mono ?_; rintro ee ww ⟨rfl, rfl⟩))))
  all_goals go_ret
  all_goals refine Ret.mk ?_ (?_ : Bel _ _)
  all_goals first | (repeat (first | with_reducible exact Bel.refl _ | with_reducible assumption | apply Bel.ext | apply Bel.alloc | apply Bel.drew | exact Bel.refl _ | refine Bel.set ?_ (by first | (simp; done) | (simp [go_sem]; done) | omega) _)); done | (first | (rw [← H.out]; simp_all [ephB]; done) | (rw [← H.out]; simp_all [ephB]; omega) | (rw [← H.out]; simp_all [ephB]; rw [Bool.eq_iff_iff]; simp; omega))
set_option maxHeartbeats 400000 in
theorem l09Ok_c (a b : Int) (w : World) : Calls Try.prog 55 #[.agg #[.int .i64 a, .int .i64 b]] w (Ret (.bool (ephB a b)) w) := by
  refine hide_ret fun v H => ?_
  go_enter Try.func55, Try.ntmps55
  go_wp2_with (first | (go_at_call 65; refine (l06Time_c _ _).mono ?_; rintro ee ww ⟨rfl, rfl⟩) | (go_at_call 66; refine (l09Period_c _ _).mono ?_; rintro ee ww ⟨rfl, rfl⟩) | (go_at_call 54; refine (l00In_c _ _ _ _).mono ?_; rintro ee ww ⟨rfl, rfl⟩))
  all_goals (try ((refine region_ext (by kernel_rfl) (by kernel_rfl) ?_; (repeat (go_big_quiet_step (first | (go_at_call 65; exact Calls.in_same (l06Time_c _ _)) | (go_at_call 66; exact Calls.in_same (l09Period_c _ _)) | (go_at_call 54; exact Calls.in_same (l00In_c _ _ _ _))))); refine wpQuiet_nil ?_; rintro _ ⟨_, rfl⟩); go_wp2_with (first | (go_at_call 65; refine (l06Time_c _ _).mono ?_; rintro ee ww ⟨rfl, rfl⟩) | (go_at_call 66; refine (l09Period_c _ _).mono ?_; rintro ee ww ⟨rfl, rfl⟩) | (go_at_call 54; refine (l00In_c _ _ _ _).mono ?_; rintro ee ww ⟨rfl, rfl⟩))))
  all_goals go_ret
  all_goals refine Ret.mk ?_ (?_ : Bel _ _)
  all_goals first | (repeat (first | with_reducible exact Bel.refl _ | with_reducible assumption | apply Bel.ext | apply Bel.alloc | apply Bel.drew | exact Bel.refl _ | refine Bel.set ?_ (by first | (simp; done) | (simp [go_sem]; done) | omega) _)); done | (first | (rw [← H.out]; simp_all [ephB]; done) | (rw [← H.out]; simp_all [ephB]; omega) | (rw [← H.out]; simp_all [ephB]; rw [Bool.eq_iff_iff]; simp; omega))
def phaseI (e p t : Int) : Int := (t - e) % p
set_option maxHeartbeats 400000 in
theorem phase_c (e p t : Int) (h : ephB e p = true) (h1 : -1000000000000 ≤ t) (h2 : t ≤ 1000000000000) (w : World) : Calls Try.prog 69 #[.agg #[.int .i64 e, .int .i64 p], .int .i64 t] w (Ret (.int .i64 (phaseI e p t)) w) := by
  refine hide_ret fun v H => ?_
  obtain ⟨e1, e2, p1, p2⟩ := ephB_iff.1 h
  clear h
  unfold phaseI at H
  go_enter Try.func69, Try.ntmps69
  go_wp2_with (first | (go_at_call 70; refine (mod_c _ _ (by omega) (by omega) (by omega) (by omega) _).mono ?_; rintro ee ww ⟨rfl, rfl⟩))
  all_goals (try ((refine region_ext (by kernel_rfl) (by kernel_rfl) ?_; (repeat (go_big_quiet_step (first | (go_at_call 70; exact Calls.in_same (mod_c _ _ (by omega) (by omega) (by omega) (by omega) _))))); refine wpQuiet_nil ?_; rintro _ ⟨_, rfl⟩); go_wp2_with (first | (go_at_call 70; refine (mod_c _ _ (by omega) (by omega) (by omega) (by omega) _).mono ?_; rintro ee ww ⟨rfl, rfl⟩))))
  go_ret
  refine Ret.mk ?_ (?_ : Bel _ _)
  · exact H.out
  · (repeat (first | with_reducible exact Bel.refl _ | with_reducible assumption | apply Bel.ext | apply Bel.alloc | apply Bel.drew | exact Bel.refl _ | refine Bel.set ?_ (by first | (simp; done) | (simp [go_sem]; done) | omega) _))
set_option maxHeartbeats 400000 in
theorem l09Cycle_c (e p t : Int) (h : ephB e p = true) (h1 : -1000000000000 ≤ t) (h2 : t ≤ 1000000000000) (w : World) : Calls Try.prog 33 #[.agg #[.int .i64 e, .int .i64 p], .int .i64 t] w (Ret (.int .i64 ((t - e) / p)) w) := by
  refine hide_ret fun v H => ?_
  obtain ⟨e1, e2, p1, p2⟩ := ephB_iff.1 h
  clear h
  go_enter Try.func33, Try.ntmps33
  go_wp2_with (first | (go_at_call 58; refine (l02Floor_c _ _ (by omega) (by omega) (by omega) _).mono ?_; rintro ee ww ⟨rfl, rfl⟩))
  all_goals (try ((refine region_ext (by kernel_rfl) (by kernel_rfl) ?_; (repeat (go_big_quiet_step (first | (go_at_call 58; exact Calls.in_same (l02Floor_c _ _ (by omega) (by omega) (by omega) _))))); refine wpQuiet_nil ?_; rintro _ ⟨_, rfl⟩); go_wp2_with (first | (go_at_call 58; refine (l02Floor_c _ _ (by omega) (by omega) (by omega) _).mono ?_; rintro ee ww ⟨rfl, rfl⟩))))
  go_ret
  refine Ret.mk ?_ (?_ : Bel _ _)
  · exact H.out
  · (repeat (first | with_reducible exact Bel.refl _ | with_reducible assumption | apply Bel.ext | apply Bel.alloc | apply Bel.drew | exact Bel.refl _ | refine Bel.set ?_ (by first | (simp; done) | (simp [go_sem]; done) | omega) _))
set_option maxHeartbeats 400000 in
theorem l09Phase_c (e p t : Int) (h : ephB e p = true) (h1 : -1000000000000 ≤ t) (h2 : t ≤ 1000000000000) (w : World) : Calls Try.prog 57 #[.agg #[.int .i64 e, .int .i64 p], .int .i64 t] w (Ret (.int .i64 (phaseI e p t)) w) := by
  refine hide_ret fun v H => ?_
  obtain ⟨e1, e2, p1, p2⟩ := ephB_iff.1 h
  have k : phaseI e p t = t - e - (t - e) / p * p := by unfold phaseI; have := Int.emod_add_mul_ediv (t - e) p; rw [Int.mul_comm]; omega
  have r0 := Int.emod_nonneg (t - e) (show p ≠ 0 by omega)
  have r1 := Int.emod_lt_of_pos (t - e) (show 0 < p by omega)
  have r2 := Int.emod_add_mul_ediv (t - e) p
  rw [Int.mul_comm] at r2
  have b1 : t - e - p < (t - e) / p * p := by omega
  have b2 : (t - e) / p * p ≤ t - e := by omega
  have s1 : IntKind.i64.wrap (t - e) = t - e := IntWalk.i64_in _ (by omega)
  have s2 : IntKind.i64.wrap ((t - e) / p * p) = (t - e) / p * p := IntWalk.i64_in _ (by omega)
  have s3 : IntKind.i64.wrap (t - e - (t - e) / p * p) = t - e - (t - e) / p * p := IntWalk.i64_in _ (by omega)
  rw [k] at H
  clear r0 r1 r2 k
  go_enter Try.func57, Try.ntmps57
  go_wp2_with (first | (go_at_call 33; refine (l09Cycle_c _ _ _ (by assumption) (by omega) (by omega) _).mono ?_; rintro ee ww ⟨rfl, _, rfl⟩))
  all_goals (try ((refine region_ext (by kernel_rfl) (by kernel_rfl) ?_; (repeat (go_big_quiet_step (first | (go_at_call 33; exact Calls.in_ret (l09Cycle_c _ _ _ (by assumption) (by omega) (by omega) _))))); refine wpQuiet_nil ?_; rintro _ ⟨_, rfl⟩); go_wp2_with (first | (go_at_call 33; refine (l09Cycle_c _ _ _ (by assumption) (by omega) (by omega) _).mono ?_; rintro ee ww ⟨rfl, _, rfl⟩))))
  go_ret
  refine Ret.mk ?_ (?_ : Bel _ _)
  · exact H.out
  · (repeat (first | with_reducible exact Bel.refl _ | with_reducible assumption | apply Bel.ext | apply Bel.alloc | apply Bel.drew | exact Bel.refl _ | refine Bel.set ?_ (by first | (simp; done) | (simp [go_sem]; done) | omega) _))
end Go.Proofs.Ytpfemaonipcbgaa
