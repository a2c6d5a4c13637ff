/- What the small functions on ephemerides, and the laws' helpers on ephemerides and fractions, return. -/
import Derived.Test.YtknlkljflibjbaaBase
namespace Go.Proofs.Ytknlkljflibjbaa
open Go.RowKit

set_option maxHeartbeats 1000000 in
theorem eqFraction_c (a b c d : Int) (w : World) :
    Calls Try.prog 40 #[.agg #[.int .i64 a, .int .i64 b], .agg #[.int .i64 c, .int .i64 d]] w (Ret (.bool (a == c && b == d)) w) := by
  refine hide_ret fun v H => ?_
  by_cases h1 : a = c
  · by_cases h2 : b = d
    · subst h1 h2
      go_enter Try.func40, Try.ntmps40
      go_wp2
      go_ret
      refine Ret.mk ?_ (?_ : Bel _ _)
      · rw [← H.out]; simp
      · (repeat (first | with_reducible exact Bel.refl _ | apply Bel.ext | apply Bel.alloc | apply Bel.drew | exact Bel.refl _ | refine Bel.set ?_ (by first | (simp; done) | (simp [go_sem]; done) | omega) _))
    · subst h1
      go_enter Try.func40, Try.ntmps40
      go_wp2
      all_goals go_ret
      all_goals refine Ret.mk ?_ (?_ : Bel _ _)
      all_goals first | (repeat (first | with_reducible exact Bel.refl _ | apply Bel.ext | apply Bel.alloc | apply Bel.drew | exact Bel.refl _ | refine Bel.set ?_ (by first | (simp; done) | (simp [go_sem]; done) | omega) _)); done | (rw [← H.out]; simp_all)
  · go_enter Try.func40, Try.ntmps40
    go_wp2
    all_goals go_ret
    all_goals refine Ret.mk ?_ (?_ : Bel _ _)
    all_goals first | (repeat (first | with_reducible exact Bel.refl _ | apply Bel.ext | apply Bel.alloc | apply Bel.drew | exact Bel.refl _ | refine Bel.set ?_ (by first | (simp; done) | (simp [go_sem]; done) | omega) _)); done | (rw [← H.out]; simp_all)
def phaseI (e p t : Int) : Int := (t - e) % p
end Go.Proofs.Ytknlkljflibjbaa
