/- Which models are valid, in the program and in the reference. -/
import Derived.Test.YtpfemaonipcbgaaBase
namespace Go.Proofs.Ytpfemaonipcbgaa
open Go.RowKit

set_option maxHeartbeats 400000 in
theorem toModel_c (a b c : Int) (w : World) : Calls Try.prog 10 #[.agg #[.int .i64 a, .int .i64 b, .int .i64 c]] w (Ret (.agg #[.int .i64 a, .int .i64 b, .int .i64 c]) w) := by
  refine hide_ret fun v H => ?_
  go_enter Try.func10, Try.ntmps10
  go_wp2
  refine bodyPost_ret (v := .agg #[.int .i64 a, .int .i64 b, .int .i64 c]) (by simp (maxDischargeDepth := 8) [results, Try.results10, go_sem]) rfl (Ret.mk ?_ (?_ : Bel _ _))
  · exact H.out
  · (repeat (first | with_reducible exact Bel.refl _ | with_reducible assumption | apply Bel.ext | apply Bel.alloc | apply Bel.drew | exact Bel.refl _ | refine Bel.set ?_ (by first | (simp; done) | (simp [go_sem]; done) | omega) _))
set_option maxHeartbeats 400000 in
theorem ValidModel_c (a b c : Int) (w : World) : Calls Try.prog 34 #[.agg #[.int .i64 a, .int .i64 b, .int .i64 c]] w (Ret (.bool (modelB a b c)) w) := by
  refine hide_ret fun v H => ?_
  go_enter Try.func34, Try.ntmps34
  go_wp2_with (first | (go_at_call 59; refine (in_c _ _ _ _).mono ?_; rintro ee ww ⟨rfl, rfl⟩))
  all_goals go_ret
  all_goals refine Ret.mk ?_ (?_ : Bel _ _)
  all_goals first | (repeat (first | with_reducible exact Bel.refl _ | with_reducible assumption | apply Bel.ext | apply Bel.alloc | apply Bel.drew | exact Bel.refl _ | refine Bel.set ?_ (by first | (simp; done) | (simp [go_sem]; done) | omega) _)); done | (first | (rw [← H.out]; simp_all [modelB, inB]; done) | (rw [← H.out]; simp_all [modelB, inB]; omega) | (rw [← H.out]; simp_all [modelB, inB]; rw [Bool.eq_iff_iff]; simp; omega))
set_option maxHeartbeats 400000 in
theorem l14Ok_c (a b c : Int) (w : World) : Calls Try.prog 28 #[.agg #[.int .i64 a, .int .i64 b, .int .i64 c]] w (Ret (.bool (modelB a b c)) w) := by
  refine hide_ret fun v H => ?_
  by_cases hb : 1 ≤ b ∧ b ≤ 1000000
  · obtain ⟨b1, b2⟩ := hb
    have e : inB b 1 1000000 = true := inB_iff.2 ⟨b1, b2⟩
    go_enter Try.func28, Try.ntmps28
    go_wp2_with (first | (go_at_call 54; refine (l00In_c _ _ _ _).mono ?_; rintro ee ww ⟨rfl, rfl⟩))
    all_goals go_ret
    all_goals refine Ret.mk ?_ (?_ : Bel _ _)
    all_goals first | (repeat (first | with_reducible exact Bel.refl _ | with_reducible assumption | apply Bel.ext | apply Bel.alloc | apply Bel.drew | exact Bel.refl _ | refine Bel.set ?_ (by first | (simp; done) | (simp [go_sem]; done) | omega) _)); done | (first | (rw [← H.out]; simp_all [modelB, inB]; done) | (rw [← H.out]; simp_all [modelB, inB]; omega) | (rw [← H.out]; simp_all [modelB, inB]; rw [Bool.eq_iff_iff]; simp; omega))
  · have e : inB b 1 1000000 = false := inB_false.2 hb
    go_enter Try.func28, Try.ntmps28
    go_wp2_with (first | (go_at_call 54; refine (l00In_c _ _ _ _).mono ?_; rintro ee ww ⟨rfl, rfl⟩))
    all_goals go_ret
    all_goals refine Ret.mk ?_ (?_ : Bel _ _)
    all_goals first | (repeat (first | with_reducible exact Bel.refl _ | with_reducible assumption | apply Bel.ext | apply Bel.alloc | apply Bel.drew | exact Bel.refl _ | refine Bel.set ?_ (by first | (simp; done) | (simp [go_sem]; done) | omega) _)); done | (first | (rw [← H.out]; simp_all [modelB, inB]; done) | (rw [← H.out]; simp_all [modelB, inB]; omega) | (rw [← H.out]; simp_all [modelB, inB]; rw [Bool.eq_iff_iff]; simp; omega))
end Go.Proofs.Ytpfemaonipcbgaa
