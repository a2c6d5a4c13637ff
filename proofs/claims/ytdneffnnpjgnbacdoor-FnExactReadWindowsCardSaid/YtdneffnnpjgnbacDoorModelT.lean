/- What the functions on eclipse models return. -/
import Derived.Test.YtdneffnnpjgnbacDoorBase
namespace Go.Proofs.YtdneffnnpjgnbacDoor
open Go.RowKit

set_option maxHeartbeats 400000 in
theorem toModelT_c (a b c : Int) (w : World) : Calls Tryd.prog 8 #[.agg #[.int .i64 a, .int .i64 b, .int .i64 c]] w (Ret (.agg #[.int .i64 a, .int .i64 b, .int .i64 c]) w) := by
  refine hide_ret fun v H => ?_
  go_enter Tryd.func8, Tryd.ntmps8
  go_wp2
  refine bodyPost_ret (v := .agg #[.int .i64 a, .int .i64 b, .int .i64 c]) (by simp (maxDischargeDepth := 8) [results, Tryd.results8, go_sem]) rfl (Ret.mk ?_ (?_ : Bel _ _))
  · exact H.out
  · (repeat (first | with_reducible exact Bel.refl _ | with_reducible assumption | apply Bel.ext | apply Bel.alloc | apply Bel.drew | exact Bel.refl _ | refine Bel.set ?_ (by first | (simp; done) | (simp [go_sem]; done) | omega) _))
set_option maxHeartbeats 400000 in
theorem ValidModelT_c (a b c : Int) (w : World) : Calls Tryd.prog 27 #[.agg #[.int .i64 a, .int .i64 b, .int .i64 c]] w (Ret (.bool (modelB a b c)) w) := by
  refine hide_ret fun v H => ?_
  go_enter Tryd.func27, Tryd.ntmps27
  go_wp2_with (first | (go_at_call 50; refine (in_c _ _ _ _).mono ?_; rintro ee ww ⟨rfl, rfl⟩))
  all_goals go_ret
  all_goals refine Ret.mk ?_ (?_ : Bel _ _)
  all_goals first | (repeat (first | with_reducible exact Bel.refl _ | with_reducible assumption | apply Bel.ext | apply Bel.alloc | apply Bel.drew | exact Bel.refl _ | refine Bel.set ?_ (by first | (simp; done) | (simp [go_sem]; done) | omega) _)); done | (first | (rw [← H.out]; simp_all [modelB, inB]; done) | (rw [← H.out]; simp_all [modelB, inB]; omega) | (rw [← H.out]; simp_all [modelB, inB]; rw [Bool.eq_iff_iff]; simp; omega))
set_option maxHeartbeats 400000 in
theorem l14OkT_c (a b c : Int) (w : World) : Calls Tryd.prog 25 #[.agg #[.int .i64 a, .int .i64 b, .int .i64 c]] w (Ret (.bool (modelB a b c)) w) := by
  refine hide_ret fun v H => ?_
  by_cases hb : 1 ≤ b ∧ b ≤ 1000000
  · obtain ⟨b1, b2⟩ := hb
    have e : inB b 1 1000000 = true := inB_iff.2 ⟨b1, b2⟩
    go_enter Tryd.func25, Tryd.ntmps25
    go_wp2_with (first | (go_at_call 49; refine (l00In_c _ _ _ _).mono ?_; rintro ee ww ⟨rfl, rfl⟩))
    all_goals go_ret
    all_goals refine Ret.mk ?_ (?_ : Bel _ _)
    all_goals first | (repeat (first | with_reducible exact Bel.refl _ | with_reducible assumption | apply Bel.ext | apply Bel.alloc | apply Bel.drew | exact Bel.refl _ | refine Bel.set ?_ (by first | (simp; done) | (simp [go_sem]; done) | omega) _)); done | (first | (rw [← H.out]; simp_all [modelB, inB]; done) | (rw [← H.out]; simp_all [modelB, inB]; omega) | (rw [← H.out]; simp_all [modelB, inB]; rw [Bool.eq_iff_iff]; simp; omega))
  · have e : inB b 1 1000000 = false := inB_false.2 hb
    go_enter Tryd.func25, Tryd.ntmps25
    go_wp2_with (first | (go_at_call 49; refine (l00In_c _ _ _ _).mono ?_; rintro ee ww ⟨rfl, rfl⟩))
    all_goals go_ret
    all_goals refine Ret.mk ?_ (?_ : Bel _ _)
    all_goals first | (repeat (first | with_reducible exact Bel.refl _ | with_reducible assumption | apply Bel.ext | apply Bel.alloc | apply Bel.drew | exact Bel.refl _ | refine Bel.set ?_ (by first | (simp; done) | (simp [go_sem]; done) | omega) _)); done | (first | (rw [← H.out]; simp_all [modelB, inB]; done) | (rw [← H.out]; simp_all [modelB, inB]; omega) | (rw [← H.out]; simp_all [modelB, inB]; rw [Bool.eq_iff_iff]; simp; omega))
end Go.Proofs.YtdneffnnpjgnbacDoor
