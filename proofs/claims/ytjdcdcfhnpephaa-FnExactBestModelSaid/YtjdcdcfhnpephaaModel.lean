/- What the functions on eclipse models return. -/
import Derived.Test.YtjdcdcfhnpephaaBase
namespace Go.Proofs.Ytjdcdcfhnpephaa
open Go.RowKit

set_option maxHeartbeats 400000 in
theorem toModel_c (a b c : Int) (w : World) : Calls Try.prog 13 #[.agg #[.int .i64 a, .int .i64 b, .int .i64 c]] w (Ret (.agg #[.int .i64 a, .int .i64 b, .int .i64 c]) w) := by
  refine hide_ret fun v H => ?_
  go_enter Try.func13, Try.ntmps13
  go_wp2
  refine bodyPost_ret (v := .agg #[.int .i64 a, .int .i64 b, .int .i64 c]) (by simp (maxDischargeDepth := 8) [results, Try.results13, go_sem]) rfl (Ret.mk ?_ (?_ : Bel _ _))
  · exact H.out
  · (repeat (first | with_reducible exact Bel.refl _ | with_reducible assumption | apply Bel.ext | apply Bel.alloc | apply Bel.drew | exact Bel.refl _ | refine Bel.set ?_ (by first | (simp; done) | (simp [go_sem]; done) | omega) _))
set_option maxHeartbeats 400000 in
theorem ValidModel_c (a b c : Int) (w : World) : Calls Try.prog 14 #[.agg #[.int .i64 a, .int .i64 b, .int .i64 c]] w (Ret (.bool (modelB a b c)) w) := by
  refine hide_ret fun v H => ?_
  go_enter Try.func14, Try.ntmps14
  go_wp2_with (first | (go_at_call 48; refine (in_c _ _ _ _).mono ?_; rintro ee ww ⟨rfl, rfl⟩))
  all_goals go_ret
  all_goals refine Ret.mk ?_ (?_ : Bel _ _)
  all_goals first | (repeat (first | with_reducible exact Bel.refl _ | with_reducible assumption | apply Bel.ext | apply Bel.alloc | apply Bel.drew | exact Bel.refl _ | refine Bel.set ?_ (by first | (simp; done) | (simp [go_sem]; done) | omega) _)); done | (first | (rw [← H.out]; simp_all [modelB, inB]; done) | (rw [← H.out]; simp_all [modelB, inB]; omega) | (rw [← H.out]; simp_all [modelB, inB]; rw [Bool.eq_iff_iff]; simp; omega))
set_option maxHeartbeats 400000 in
theorem l14Ok_c (a b c : Int) (w : World) : Calls Try.prog 47 #[.agg #[.int .i64 a, .int .i64 b, .int .i64 c]] w (Ret (.bool (modelB a b c)) w) := by
  refine hide_ret fun v H => ?_
  by_cases hb : 1 ≤ b ∧ b ≤ 1000000
  · obtain ⟨b1, b2⟩ := hb
    have e : inB b 1 1000000 = true := inB_iff.2 ⟨b1, b2⟩
    go_enter Try.func47, Try.ntmps47
    go_wp2_with (first | (go_at_call 49; refine (l00In_c _ _ _ _).mono ?_; rintro ee ww ⟨rfl, rfl⟩))
    all_goals go_ret
    all_goals refine Ret.mk ?_ (?_ : Bel _ _)
    all_goals first | (repeat (first | with_reducible exact Bel.refl _ | with_reducible assumption | apply Bel.ext | apply Bel.alloc | apply Bel.drew | exact Bel.refl _ | refine Bel.set ?_ (by first | (simp; done) | (simp [go_sem]; done) | omega) _)); done | (first | (rw [← H.out]; simp_all [modelB, inB]; done) | (rw [← H.out]; simp_all [modelB, inB]; omega) | (rw [← H.out]; simp_all [modelB, inB]; rw [Bool.eq_iff_iff]; simp; omega))
  · have e : inB b 1 1000000 = false := inB_false.2 hb
    go_enter Try.func47, Try.ntmps47
    go_wp2_with (first | (go_at_call 49; refine (l00In_c _ _ _ _).mono ?_; rintro ee ww ⟨rfl, rfl⟩))
    all_goals go_ret
    all_goals refine Ret.mk ?_ (?_ : Bel _ _)
    all_goals first | (repeat (first | with_reducible exact Bel.refl _ | with_reducible assumption | apply Bel.ext | apply Bel.alloc | apply Bel.drew | exact Bel.refl _ | refine Bel.set ?_ (by first | (simp; done) | (simp [go_sem]; done) | omega) _)); done | (first | (rw [← H.out]; simp_all [modelB, inB]; done) | (rw [← H.out]; simp_all [modelB, inB]; omega) | (rw [← H.out]; simp_all [modelB, inB]; rw [Bool.eq_iff_iff]; simp; omega))
set_option maxHeartbeats 400000 in
theorem sValidModel_c (a b c : Int) (w : World) : Calls Try.prog 12 #[.agg #[.int .i64 a, .int .i64 b, .int .i64 c]] w (Ret (.bool (modelB a b c)) w) := by
  refine hide_ret fun v H => ?_
  go_enter Try.func12, Try.ntmps12
  go_wp2_with (first | (go_at_call 47; refine (l14Ok_c _ _ _ _).mono ?_; rintro ee ww ⟨rfl, _, rfl⟩))
  all_goals go_ret
  refine Ret.mk ?_ (?_ : Bel _ _)
  · exact H.out
  · (repeat (first | with_reducible exact Bel.refl _ | with_reducible assumption | apply Bel.ext | apply Bel.alloc | apply Bel.drew | exact Bel.refl _ | refine Bel.set ?_ (by first | (simp; done) | (simp [go_sem]; done) | omega) _))
def areaI (a b c : Int) : Int × Int := if modelB a b c then (a * (b + c), 0) else (0, 1)
set_option maxHeartbeats 400000 in
theorem AreaOfModel_c (a b c : Int) (w : World) : Calls Try.prog 16 #[.agg #[.int .i64 a, .int .i64 b, .int .i64 c]] w (Ret (.tuple #[.int .i64 (areaI a b c).1, .int .i64 (areaI a b c).2]) w) := by
  refine hide_ret fun v H => ?_
  rcases hm : modelB a b c with _ | _
  · go_enter Try.func16, Try.ntmps16
    go_wp2_with (first | (go_at_call 14; refine (ValidModel_c _ _ _ _).mono ?_; rintro ee ww ⟨rfl, _, rfl⟩))
    all_goals (try ((refine region_ext (by kernel_rfl) (by kernel_rfl) ?_; (repeat (go_big_quiet_step (first | (go_at_call 14; exact Calls.in_ret (ValidModel_c _ _ _ _))))); refine wpQuiet_nil ?_; rintro _ ⟨_, rfl⟩); go_wp2_with (first | (go_at_call 14; refine (ValidModel_c _ _ _ _).mono ?_; rintro ee ww ⟨rfl, _, rfl⟩))))
    go_ret2
    refine Ret.mk ?_ (?_ : Bel _ _)
    · rw [← H.out]; simp [areaI, hm]
    · (repeat (first | with_reducible exact Bel.refl _ | with_reducible assumption | apply Bel.ext | apply Bel.alloc | apply Bel.drew | exact Bel.refl _ | refine Bel.set ?_ (by first | (simp; done) | (simp [go_sem]; done) | omega) _))
  · obtain ⟨m1, m2, m3, m4, m5⟩ := modelB_iff.1 hm
    have p1 : 0 ≤ a * (b + c) := Int.mul_nonneg (by omega) (by omega)
    have p2 : a * (b + c) ≤ 5000 * (b + c) := Int.mul_le_mul_of_nonneg_right m2 (by omega)
    go_enter Try.func16, Try.ntmps16
    go_wp2_with (first | (go_at_call 14; refine (ValidModel_c _ _ _ _).mono ?_; rintro ee ww ⟨rfl, _, rfl⟩))
    all_goals (try ((refine region_ext (by kernel_rfl) (by kernel_rfl) ?_; (repeat (go_big_quiet_step (first | (go_at_call 14; exact Calls.in_ret (ValidModel_c _ _ _ _))))); refine wpQuiet_nil ?_; rintro _ ⟨_, rfl⟩); go_wp2_with (first | (go_at_call 14; refine (ValidModel_c _ _ _ _).mono ?_; rintro ee ww ⟨rfl, _, rfl⟩))))
    go_ret2
    refine Ret.mk ?_ (?_ : Bel _ _)
    · rw [← H.out]; simp [areaI, hm]
    · (repeat (first | with_reducible exact Bel.refl _ | with_reducible assumption | apply Bel.ext | apply Bel.alloc | apply Bel.drew | exact Bel.refl _ | refine Bel.set ?_ (by first | (simp; done) | (simp [go_sem]; done) | omega) _))
set_option maxHeartbeats 400000 in
theorem sAreaOfModel_c (a b c : Int) (w : World) : Calls Try.prog 15 #[.agg #[.int .i64 a, .int .i64 b, .int .i64 c]] w (Ret (.tuple #[.int .i64 (areaI a b c).1, .int .i64 (areaI a b c).2]) w) := by
  refine hide_ret fun v H => ?_
  rcases hm : modelB a b c with _ | _
  · go_enter Try.func15, Try.ntmps15
    go_wp2_with (first | (go_at_call 47; refine (l14Ok_c _ _ _ _).mono ?_; rintro ee ww ⟨rfl, _, rfl⟩))
    all_goals (try ((refine region_ext (by kernel_rfl) (by kernel_rfl) ?_; (repeat (go_big_quiet_step (first | (go_at_call 47; exact Calls.in_ret (l14Ok_c _ _ _ _))))); refine wpQuiet_nil ?_; rintro _ ⟨_, rfl⟩); go_wp2_with (first | (go_at_call 47; refine (l14Ok_c _ _ _ _).mono ?_; rintro ee ww ⟨rfl, _, rfl⟩))))
    go_ret2
    refine Ret.mk ?_ (?_ : Bel _ _)
    · rw [← H.out]; simp [areaI, hm]
    · (repeat (first | with_reducible exact Bel.refl _ | with_reducible assumption | apply Bel.ext | apply Bel.alloc | apply Bel.drew | exact Bel.refl _ | refine Bel.set ?_ (by first | (simp; done) | (simp [go_sem]; done) | omega) _))
  · obtain ⟨m1, m2, m3, m4, m5⟩ := modelB_iff.1 hm
    have p1 : 0 ≤ a * (b + c) := Int.mul_nonneg (by omega) (by omega)
    have p2 : a * (b + c) ≤ 5000 * (b + c) := Int.mul_le_mul_of_nonneg_right m2 (by omega)
    go_enter Try.func15, Try.ntmps15
    go_wp2_with (first | (go_at_call 47; refine (l14Ok_c _ _ _ _).mono ?_; rintro ee ww ⟨rfl, _, rfl⟩))
    all_goals (try ((refine region_ext (by kernel_rfl) (by kernel_rfl) ?_; (repeat (go_big_quiet_step (first | (go_at_call 47; exact Calls.in_ret (l14Ok_c _ _ _ _))))); refine wpQuiet_nil ?_; rintro _ ⟨_, rfl⟩); go_wp2_with (first | (go_at_call 47; refine (l14Ok_c _ _ _ _).mono ?_; rintro ee ww ⟨rfl, _, rfl⟩))))
    go_ret2
    refine Ret.mk ?_ (?_ : Bel _ _)
    · rw [← H.out]; simp [areaI, hm]
    · (repeat (first | with_reducible exact Bel.refl _ | with_reducible assumption | apply Bel.ext | apply Bel.alloc | apply Bel.drew | exact Bel.refl _ | refine Bel.set ?_ (by first | (simp; done) | (simp [go_sem]; done) | omega) _))
set_option maxHeartbeats 1000000 in
theorem drop_c (a b c d : Int) (hm : modelB a b c = true) (w : World) : Calls Try.prog 52 #[.agg #[.int .i64 a, .int .i64 b, .int .i64 c], .int .i64 d] w (Ret (.int .i64 (dropI a b c d)) w) := by
  refine hide_ret fun v H => ?_
  obtain ⟨m1, m2, m3, m4, m5⟩ := modelB_iff.1 hm
  clear hm
  by_cases h1 : d ≤ c
  · rw [show dropI a b c d = a from if_pos h1] at H
    go_enter Try.func52, Try.ntmps52
    go_wp2_with (first | (go_at_call 78; refine (nearest_c _ _ (by omega) (by omega) (by omega) (by omega) _).mono ?_; rintro ee ww ⟨rfl, rfl⟩))
    all_goals (try ((refine region_ext (by kernel_rfl) (by kernel_rfl) ?_; (repeat (go_big_quiet_step (first | (go_at_call 78; exact Calls.in_same (nearest_c _ _ (by omega) (by omega) (by omega) (by omega) _))))); refine wpQuiet_nil ?_; rintro _ ⟨_, rfl⟩); go_wp2_with (first | (go_at_call 78; refine (nearest_c _ _ (by omega) (by omega) (by omega) (by omega) _).mono ?_; rintro ee ww ⟨rfl, rfl⟩))))
    go_ret
    refine Ret.mk ?_ (?_ : Bel _ _)
    · exact H.out
    · (repeat (first | with_reducible exact Bel.refl _ | with_reducible assumption | apply Bel.ext | apply Bel.alloc | apply Bel.drew | exact Bel.refl _ | refine Bel.set ?_ (by first | (simp; done) | (simp [go_sem]; done) | omega) _))
  · by_cases h2 : b ≤ d
    · rw [show dropI a b c d = 0 from by rw [dropI, if_neg h1, if_pos h2]] at H
      go_enter Try.func52, Try.ntmps52
      go_wp2_with (first | (go_at_call 78; refine (nearest_c _ _ (by omega) (by omega) (by omega) (by omega) _).mono ?_; rintro ee ww ⟨rfl, rfl⟩))
      all_goals (try ((refine region_ext (by kernel_rfl) (by kernel_rfl) ?_; (repeat (go_big_quiet_step (first | (go_at_call 78; exact Calls.in_same (nearest_c _ _ (by omega) (by omega) (by omega) (by omega) _))))); refine wpQuiet_nil ?_; rintro _ ⟨_, rfl⟩); go_wp2_with (first | (go_at_call 78; refine (nearest_c _ _ (by omega) (by omega) (by omega) (by omega) _).mono ?_; rintro ee ww ⟨rfl, rfl⟩))))
      go_ret
      refine Ret.mk ?_ (?_ : Bel _ _)
      · exact H.out
      · (repeat (first | with_reducible exact Bel.refl _ | with_reducible assumption | apply Bel.ext | apply Bel.alloc | apply Bel.drew | exact Bel.refl _ | refine Bel.set ?_ (by first | (simp; done) | (simp [go_sem]; done) | omega) _))
    · have p1 : 0 ≤ a * (b - d) := Int.mul_nonneg (by omega) (by omega)
      have p2 : a * (b - d) ≤ 5000 * (b - d) := Int.mul_le_mul_of_nonneg_right m2 (by omega)
      rw [show dropI a b c d = roundI (a * (b - d)) (b - c) from by rw [dropI, if_neg h1, if_neg h2]] at H
      go_enter Try.func52, Try.ntmps52
      go_wp2_with (first | (go_at_call 78; refine (nearest_c _ _ (by omega) (by omega) (by omega) (by omega) _).mono ?_; rintro ee ww ⟨rfl, rfl⟩))
      all_goals (try ((refine region_ext (by kernel_rfl) (by kernel_rfl) ?_; (repeat (go_big_quiet_step (first | (go_at_call 78; exact Calls.in_same (nearest_c _ _ (by omega) (by omega) (by omega) (by omega) _))))); refine wpQuiet_nil ?_; rintro _ ⟨_, rfl⟩); go_wp2_with (first | (go_at_call 78; refine (nearest_c _ _ (by omega) (by omega) (by omega) (by omega) _).mono ?_; rintro ee ww ⟨rfl, rfl⟩))))
      go_ret
      refine Ret.mk ?_ (?_ : Bel _ _)
      · exact H.out
      · (repeat (first | with_reducible exact Bel.refl _ | with_reducible assumption | apply Bel.ext | apply Bel.alloc | apply Bel.drew | exact Bel.refl _ | refine Bel.set ?_ (by first | (simp; done) | (simp [go_sem]; done) | omega) _))
set_option maxHeartbeats 1000000 in
theorem l14Drop_c (a b c d : Int) (hm : modelB a b c = true) (w : World) : Calls Try.prog 50 #[.agg #[.int .i64 a, .int .i64 b, .int .i64 c], .int .i64 d] w (Ret (.int .i64 (dropI a b c d)) w) := by
  refine hide_ret fun v H => ?_
  obtain ⟨m1, m2, m3, m4, m5⟩ := modelB_iff.1 hm
  clear hm
  by_cases h1 : d ≤ c
  · rw [show dropI a b c d = a from if_pos h1] at H
    go_enter Try.func50, Try.ntmps50
    go_wp2_with (first | (go_at_call 77; refine (l02Round_c _ _ (by omega) (by omega) (by omega) (by omega) _).mono ?_; rintro ee ww ⟨rfl, rfl⟩))
    all_goals (try ((refine region_ext (by kernel_rfl) (by kernel_rfl) ?_; (repeat (go_big_quiet_step (first | (go_at_call 77; exact Calls.in_same (l02Round_c _ _ (by omega) (by omega) (by omega) (by omega) _))))); refine wpQuiet_nil ?_; rintro _ ⟨_, rfl⟩); go_wp2_with (first | (go_at_call 77; refine (l02Round_c _ _ (by omega) (by omega) (by omega) (by omega) _).mono ?_; rintro ee ww ⟨rfl, rfl⟩))))
    go_ret
    refine Ret.mk ?_ (?_ : Bel _ _)
    · exact H.out
    · (repeat (first | with_reducible exact Bel.refl _ | with_reducible assumption | apply Bel.ext | apply Bel.alloc | apply Bel.drew | exact Bel.refl _ | refine Bel.set ?_ (by first | (simp; done) | (simp [go_sem]; done) | omega) _))
  · by_cases h2 : b ≤ d
    · rw [show dropI a b c d = 0 from by rw [dropI, if_neg h1, if_pos h2]] at H
      go_enter Try.func50, Try.ntmps50
      go_wp2_with (first | (go_at_call 77; refine (l02Round_c _ _ (by omega) (by omega) (by omega) (by omega) _).mono ?_; rintro ee ww ⟨rfl, rfl⟩))
      all_goals (try ((refine region_ext (by kernel_rfl) (by kernel_rfl) ?_; (repeat (go_big_quiet_step (first | (go_at_call 77; exact Calls.in_same (l02Round_c _ _ (by omega) (by omega) (by omega) (by omega) _))))); refine wpQuiet_nil ?_; rintro _ ⟨_, rfl⟩); go_wp2_with (first | (go_at_call 77; refine (l02Round_c _ _ (by omega) (by omega) (by omega) (by omega) _).mono ?_; rintro ee ww ⟨rfl, rfl⟩))))
      go_ret
      refine Ret.mk ?_ (?_ : Bel _ _)
      · exact H.out
      · (repeat (first | with_reducible exact Bel.refl _ | with_reducible assumption | apply Bel.ext | apply Bel.alloc | apply Bel.drew | exact Bel.refl _ | refine Bel.set ?_ (by first | (simp; done) | (simp [go_sem]; done) | omega) _))
    · have p1 : 0 ≤ a * (b - d) := Int.mul_nonneg (by omega) (by omega)
      have p2 : a * (b - d) ≤ 5000 * (b - d) := Int.mul_le_mul_of_nonneg_right m2 (by omega)
      rw [show dropI a b c d = roundI (a * (b - d)) (b - c) from by rw [dropI, if_neg h1, if_neg h2]] at H
      go_enter Try.func50, Try.ntmps50
      go_wp2_with (first | (go_at_call 77; refine (l02Round_c _ _ (by omega) (by omega) (by omega) (by omega) _).mono ?_; rintro ee ww ⟨rfl, rfl⟩))
      all_goals (try ((refine region_ext (by kernel_rfl) (by kernel_rfl) ?_; (repeat (go_big_quiet_step (first | (go_at_call 77; exact Calls.in_same (l02Round_c _ _ (by omega) (by omega) (by omega) (by omega) _))))); refine wpQuiet_nil ?_; rintro _ ⟨_, rfl⟩); go_wp2_with (first | (go_at_call 77; refine (l02Round_c _ _ (by omega) (by omega) (by omega) (by omega) _).mono ?_; rintro ee ww ⟨rfl, rfl⟩))))
      go_ret
      refine Ret.mk ?_ (?_ : Bel _ _)
      · exact H.out
      · (repeat (first | with_reducible exact Bel.refl _ | with_reducible assumption | apply Bel.ext | apply Bel.alloc | apply Bel.drew | exact Bel.refl _ | refine Bel.set ?_ (by first | (simp; done) | (simp [go_sem]; done) | omega) _))
def dropAtI (a b c o : Int) : Int × Int := if !modelB a b c then (0, 1) else if !inB o (-10000000) 10000000 then (0, 2) else (dropI a b c (absI o), 0)
set_option maxHeartbeats 1000000 in
theorem DropAt_c (a b c o : Int) (w : World) : Calls Try.prog 18 #[.agg #[.int .i64 a, .int .i64 b, .int .i64 c], .int .i64 o] w (Ret (.tuple #[.int .i64 (dropAtI a b c o).1, .int .i64 (dropAtI a b c o).2]) w) := by
  refine hide_ret fun v H => ?_
  rcases hm : modelB a b c with _ | _
  · go_enter Try.func18, Try.ntmps18
    go_wp2_with (first | (go_at_call 14; refine (ValidModel_c _ _ _ _).mono ?_; rintro ee ww ⟨rfl, _, rfl⟩))
    all_goals (try ((refine region_ext (by kernel_rfl) (by kernel_rfl) ?_; (repeat (go_big_quiet_step (first | (go_at_call 14; exact Calls.in_ret (ValidModel_c _ _ _ _))))); refine wpQuiet_nil ?_; rintro _ ⟨_, rfl⟩); go_wp2_with (first | (go_at_call 14; refine (ValidModel_c _ _ _ _).mono ?_; rintro ee ww ⟨rfl, _, rfl⟩))))
    go_ret2
    refine Ret.mk ?_ (?_ : Bel _ _)
    · rw [← H.out]; simp [dropAtI, hm]
    · (repeat (first | with_reducible exact Bel.refl _ | with_reducible assumption | apply Bel.ext | apply Bel.alloc | apply Bel.drew | exact Bel.refl _ | refine Bel.set ?_ (by first | (simp; done) | (simp [go_sem]; done) | omega) _))
  · rcases ho : inB o (-10000000) 10000000 with _ | _
    · go_enter Try.func18, Try.ntmps18
      go_wp2_with (first | (go_at_call 14; refine (ValidModel_c _ _ _ _).mono ?_; rintro ee ww ⟨rfl, _, rfl⟩) | (go_at_call 48; refine (in_c _ _ _ _).mono ?_; rintro ee ww ⟨rfl, rfl⟩))
      all_goals (try ((refine region_ext (by kernel_rfl) (by kernel_rfl) ?_; (repeat (go_big_quiet_step (first | (go_at_call 14; exact Calls.in_ret (ValidModel_c _ _ _ _)) | (go_at_call 48; exact Calls.in_same (in_c _ _ _ _))))); refine wpQuiet_nil ?_; rintro _ ⟨_, rfl⟩); go_wp2_with (first | (go_at_call 14; refine (ValidModel_c _ _ _ _).mono ?_; rintro ee ww ⟨rfl, _, rfl⟩) | (go_at_call 48; refine (in_c _ _ _ _).mono ?_; rintro ee ww ⟨rfl, rfl⟩))))
      go_ret2
      refine Ret.mk ?_ (?_ : Bel _ _)
      · rw [← H.out]; simp [dropAtI, hm, ho]
      · (repeat (first | with_reducible exact Bel.refl _ | with_reducible assumption | apply Bel.ext | apply Bel.alloc | apply Bel.drew | exact Bel.refl _ | refine Bel.set ?_ (by first | (simp; done) | (simp [go_sem]; done) | omega) _))
    · obtain ⟨o1, o2⟩ := inB_iff.1 ho
      have hp : -10000000 ≤ absI o := by unfold absI; omega
      go_enter Try.func18, Try.ntmps18
      go_wp2_with (first | (go_at_call 14; refine (ValidModel_c _ _ _ _).mono ?_; rintro ee ww ⟨rfl, _, rfl⟩) | (go_at_call 48; refine (in_c _ _ _ _).mono ?_; rintro ee ww ⟨rfl, rfl⟩) | (go_at_call 53; refine (abs_c _ (by omega) _).mono ?_; rintro ee ww ⟨rfl, rfl⟩) | (go_at_call 52; refine (drop_c _ _ _ _ (by assumption) _).mono ?_; rintro ee ww ⟨rfl, _, rfl⟩))
      all_goals (try ((refine region_ext (by kernel_rfl) (by kernel_rfl) ?_; (repeat (go_big_quiet_step (first | (go_at_call 14; exact Calls.in_ret (ValidModel_c _ _ _ _)) | (go_at_call 48; exact Calls.in_same (in_c _ _ _ _)) | (go_at_call 53; exact Calls.in_same (abs_c _ (by omega) _)) | (go_at_call 52; exact Calls.in_ret (drop_c _ _ _ _ (by assumption) _))))); refine wpQuiet_nil ?_; rintro _ ⟨_, rfl⟩); go_wp2_with (first | (go_at_call 14; refine (ValidModel_c _ _ _ _).mono ?_; rintro ee ww ⟨rfl, _, rfl⟩) | (go_at_call 48; refine (in_c _ _ _ _).mono ?_; rintro ee ww ⟨rfl, rfl⟩) | (go_at_call 53; refine (abs_c _ (by omega) _).mono ?_; rintro ee ww ⟨rfl, rfl⟩) | (go_at_call 52; refine (drop_c _ _ _ _ (by assumption) _).mono ?_; rintro ee ww ⟨rfl, _, rfl⟩))))
      go_ret2
      refine Ret.mk ?_ (?_ : Bel _ _)
      · rw [← H.out]; simp [dropAtI, hm, ho]
      · (repeat (first | with_reducible exact Bel.refl _ | with_reducible assumption | apply Bel.ext | apply Bel.alloc | apply Bel.drew | exact Bel.refl _ | refine Bel.set ?_ (by first | (simp; done) | (simp [go_sem]; done) | omega) _))
set_option maxHeartbeats 1000000 in
theorem sDropAt_c (a b c o : Int) (w : World) : Calls Try.prog 17 #[.agg #[.int .i64 a, .int .i64 b, .int .i64 c], .int .i64 o] w (Ret (.tuple #[.int .i64 (dropAtI a b c o).1, .int .i64 (dropAtI a b c o).2]) w) := by
  refine hide_ret fun v H => ?_
  rcases hm : modelB a b c with _ | _
  · go_enter Try.func17, Try.ntmps17
    go_wp2_with (first | (go_at_call 47; refine (l14Ok_c _ _ _ _).mono ?_; rintro ee ww ⟨rfl, _, rfl⟩))
    all_goals (try ((refine region_ext (by kernel_rfl) (by kernel_rfl) ?_; (repeat (go_big_quiet_step (first | (go_at_call 47; exact Calls.in_ret (l14Ok_c _ _ _ _))))); refine wpQuiet_nil ?_; rintro _ ⟨_, rfl⟩); go_wp2_with (first | (go_at_call 47; refine (l14Ok_c _ _ _ _).mono ?_; rintro ee ww ⟨rfl, _, rfl⟩))))
    go_ret2
    refine Ret.mk ?_ (?_ : Bel _ _)
    · rw [← H.out]; simp [dropAtI, hm]
    · (repeat (first | with_reducible exact Bel.refl _ | with_reducible assumption | apply Bel.ext | apply Bel.alloc | apply Bel.drew | exact Bel.refl _ | refine Bel.set ?_ (by first | (simp; done) | (simp [go_sem]; done) | omega) _))
  · rcases ho : inB o (-10000000) 10000000 with _ | _
    · go_enter Try.func17, Try.ntmps17
      go_wp2_with (first | (go_at_call 47; refine (l14Ok_c _ _ _ _).mono ?_; rintro ee ww ⟨rfl, _, rfl⟩) | (go_at_call 49; refine (l00In_c _ _ _ _).mono ?_; rintro ee ww ⟨rfl, rfl⟩))
      all_goals (try ((refine region_ext (by kernel_rfl) (by kernel_rfl) ?_; (repeat (go_big_quiet_step (first | (go_at_call 47; exact Calls.in_ret (l14Ok_c _ _ _ _)) | (go_at_call 49; exact Calls.in_same (l00In_c _ _ _ _))))); refine wpQuiet_nil ?_; rintro _ ⟨_, rfl⟩); go_wp2_with (first | (go_at_call 47; refine (l14Ok_c _ _ _ _).mono ?_; rintro ee ww ⟨rfl, _, rfl⟩) | (go_at_call 49; refine (l00In_c _ _ _ _).mono ?_; rintro ee ww ⟨rfl, rfl⟩))))
      go_ret2
      refine Ret.mk ?_ (?_ : Bel _ _)
      · rw [← H.out]; simp [dropAtI, hm, ho]
      · (repeat (first | with_reducible exact Bel.refl _ | with_reducible assumption | apply Bel.ext | apply Bel.alloc | apply Bel.drew | exact Bel.refl _ | refine Bel.set ?_ (by first | (simp; done) | (simp [go_sem]; done) | omega) _))
    · obtain ⟨o1, o2⟩ := inB_iff.1 ho
      have hp : -10000000 ≤ absI o := by unfold absI; omega
      go_enter Try.func17, Try.ntmps17
      go_wp2_with (first | (go_at_call 47; refine (l14Ok_c _ _ _ _).mono ?_; rintro ee ww ⟨rfl, _, rfl⟩) | (go_at_call 49; refine (l00In_c _ _ _ _).mono ?_; rintro ee ww ⟨rfl, rfl⟩) | (go_at_call 51; refine (l02Size_c _ (by omega) _).mono ?_; rintro ee ww ⟨rfl, rfl⟩) | (go_at_call 50; refine (l14Drop_c _ _ _ _ (by assumption) _).mono ?_; rintro ee ww ⟨rfl, _, rfl⟩))
      all_goals (try ((refine region_ext (by kernel_rfl) (by kernel_rfl) ?_; (repeat (go_big_quiet_step (first | (go_at_call 47; exact Calls.in_ret (l14Ok_c _ _ _ _)) | (go_at_call 49; exact Calls.in_same (l00In_c _ _ _ _)) | (go_at_call 51; exact Calls.in_same (l02Size_c _ (by omega) _)) | (go_at_call 50; exact Calls.in_ret (l14Drop_c _ _ _ _ (by assumption) _))))); refine wpQuiet_nil ?_; rintro _ ⟨_, rfl⟩); go_wp2_with (first | (go_at_call 47; refine (l14Ok_c _ _ _ _).mono ?_; rintro ee ww ⟨rfl, _, rfl⟩) | (go_at_call 49; refine (l00In_c _ _ _ _).mono ?_; rintro ee ww ⟨rfl, rfl⟩) | (go_at_call 51; refine (l02Size_c _ (by omega) _).mono ?_; rintro ee ww ⟨rfl, rfl⟩) | (go_at_call 50; refine (l14Drop_c _ _ _ _ (by assumption) _).mono ?_; rintro ee ww ⟨rfl, _, rfl⟩))))
      go_ret2
      refine Ret.mk ?_ (?_ : Bel _ _)
      · rw [← H.out]; simp [dropAtI, hm, ho]
      · (repeat (first | with_reducible exact Bel.refl _ | with_reducible assumption | apply Bel.ext | apply Bel.alloc | apply Bel.drew | exact Bel.refl _ | refine Bel.set ?_ (by first | (simp; done) | (simp [go_sem]; done) | omega) _))
end Go.Proofs.Ytjdcdcfhnpephaa
