/- What the small functions on ephemerides, and the laws' helpers on ephemerides and fractions, return. -/
import Derived.Test.YtlnpfggcmjljbaaBase
namespace Go.Proofs.Ytlnpfggcmjljbaa
open Go.RowKit

set_option maxHeartbeats 400000 in
theorem toEphemeris_c (a b : Int) (w : World) : Calls Try.prog 36 #[.agg #[.int .i64 a, .int .i64 b]] w (Ret (.agg #[.int .i64 a, .int .i64 b]) w) := by
  refine hide_ret fun v H => ?_
  go_enter Try.func36, Try.ntmps36
  go_wp2
  refine bodyPost_ret (v := .agg #[.int .i64 a, .int .i64 b]) (by simp [results, Try.results36, go_sem]) rfl (Ret.mk ?_ (?_ : Bel _ _))
  · exact H.out
  · (repeat (first | exact Bel.refl _ | apply Bel.ext | apply Bel.alloc | apply Bel.drew | refine Bel.set ?_ (by first | (simp; done) | (simp [go_sem]; done) | omega) _))
set_option maxHeartbeats 1000000 in
theorem eqFraction_c (a b c d : Int) (w : World) :
    Calls Try.prog 30 #[.agg #[.int .i64 a, .int .i64 b], .agg #[.int .i64 c, .int .i64 d]] w (Ret (.bool (a == c && b == d)) w) := by
  refine hide_ret fun v H => ?_
  by_cases h1 : a = c
  · by_cases h2 : b = d
    · subst h1 h2
      go_enter Try.func30, Try.ntmps30
      go_wp2
      go_ret
      refine Ret.mk ?_ (?_ : Bel _ _)
      · rw [← H.out]; simp
      · (repeat (first | exact Bel.refl _ | apply Bel.ext | apply Bel.alloc | apply Bel.drew | refine Bel.set ?_ (by first | (simp; done) | (simp [go_sem]; done) | omega) _))
    · subst h1
      go_enter Try.func30, Try.ntmps30
      go_wp2
      all_goals go_ret
      all_goals refine Ret.mk ?_ (?_ : Bel _ _)
      all_goals first | (repeat (first | exact Bel.refl _ | apply Bel.ext | apply Bel.alloc | apply Bel.drew | refine Bel.set ?_ (by first | (simp; done) | (simp [go_sem]; done) | omega) _)); done | (rw [← H.out]; simp_all)
  · go_enter Try.func30, Try.ntmps30
    go_wp2
    all_goals go_ret
    all_goals refine Ret.mk ?_ (?_ : Bel _ _)
    all_goals first | (repeat (first | exact Bel.refl _ | apply Bel.ext | apply Bel.alloc | apply Bel.drew | refine Bel.set ?_ (by first | (simp; done) | (simp [go_sem]; done) | omega) _)); done | (rw [← H.out]; simp_all)
set_option maxHeartbeats 400000 in
theorem ValidEphemeris_c (a b : Int) (w : World) : Calls Try.prog 64 #[.agg #[.int .i64 a, .int .i64 b]] w (Ret (.bool (ephB a b)) w) := by
  refine hide_ret fun v H => ?_
  go_enter Try.func64, Try.ntmps64
  go_wp2_with (first | (go_at_call 53; refine (ValidTime_c _ _).mono ?_; rintro ee ww ⟨rfl, rfl⟩) | (go_at_call 61; refine (in_c _ _ _ _).mono ?_; rintro ee ww ⟨rfl, rfl⟩))
  all_goals (try ((refine region_ext (by kernel_rfl) (by kernel_rfl) ?_; (repeat (go_big_quiet_step (first | (go_at_call 53; exact Calls.in_same (ValidTime_c _ _)) | (go_at_call 61; exact Calls.in_same (in_c _ _ _ _))))); refine wpQuiet_nil ?_; rintro _ ⟨_, rfl⟩); go_wp2_with (first | (go_at_call 53; refine (ValidTime_c _ _).mono ?_; rintro ee ww ⟨rfl, rfl⟩) | (go_at_call 61; refine (in_c _ _ _ _).mono ?_; rintro ee ww ⟨rfl, rfl⟩))))
  all_goals go_ret
  all_goals refine Ret.mk ?_ (?_ : Bel _ _)
  all_goals first | (repeat (first | exact Bel.refl _ | apply Bel.ext | apply Bel.alloc | apply Bel.drew | refine Bel.set ?_ (by first | (simp; done) | (simp [go_sem]; done) | omega) _)); done | (first | (rw [← H.out]; simp_all [ephB]; done) | (rw [← H.out]; simp_all [ephB]; omega) | (rw [← H.out]; simp_all [ephB]; rw [Bool.eq_iff_iff]; simp; omega))
set_option maxHeartbeats 400000 in
theorem l09Ok_c (a b : Int) (w : World) : Calls Try.prog 62 #[.agg #[.int .i64 a, .int .i64 b]] w (Ret (.bool (ephB a b)) w) := by
  refine hide_ret fun v H => ?_
  go_enter Try.func62, Try.ntmps62
  go_wp2_with (first | (go_at_call 56; refine (l06Time_c _ _).mono ?_; rintro ee ww ⟨rfl, rfl⟩) | (go_at_call 57; refine (l09Period_c _ _).mono ?_; rintro ee ww ⟨rfl, rfl⟩) | (go_at_call 58; refine (l00In_c _ _ _ _).mono ?_; rintro ee ww ⟨rfl, rfl⟩))
  all_goals (try ((refine region_ext (by kernel_rfl) (by kernel_rfl) ?_; (repeat (go_big_quiet_step (first | (go_at_call 56; exact Calls.in_same (l06Time_c _ _)) | (go_at_call 57; exact Calls.in_same (l09Period_c _ _)) | (go_at_call 58; exact Calls.in_same (l00In_c _ _ _ _))))); refine wpQuiet_nil ?_; rintro _ ⟨_, rfl⟩); go_wp2_with (first | (go_at_call 56; refine (l06Time_c _ _).mono ?_; rintro ee ww ⟨rfl, rfl⟩) | (go_at_call 57; refine (l09Period_c _ _).mono ?_; rintro ee ww ⟨rfl, rfl⟩) | (go_at_call 58; refine (l00In_c _ _ _ _).mono ?_; rintro ee ww ⟨rfl, rfl⟩))))
  all_goals go_ret
  all_goals refine Ret.mk ?_ (?_ : Bel _ _)
  all_goals first | (repeat (first | exact Bel.refl _ | apply Bel.ext | apply Bel.alloc | apply Bel.drew | refine Bel.set ?_ (by first | (simp; done) | (simp [go_sem]; done) | omega) _)); done | (first | (rw [← H.out]; simp_all [ephB]; done) | (rw [← H.out]; simp_all [ephB]; omega) | (rw [← H.out]; simp_all [ephB]; rw [Bool.eq_iff_iff]; simp; omega))
def phaseI (e p t : Int) : Int := (t - e) % p
end Go.Proofs.Ytlnpfggcmjljbaa
