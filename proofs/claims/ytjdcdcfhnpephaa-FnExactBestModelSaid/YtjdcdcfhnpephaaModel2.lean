/- What the functions on model magnitudes, and the share of an eclipse return. -/
import Derived.Test.YtjdcdcfhnpephaaModel
import Derived.Test.YtjdcdcfhnpephaaEph
namespace Go.Proofs.Ytjdcdcfhnpephaa
open Go.RowKit

def magAtI (a b c e p m t : Int) : Int := m + dropI a b c (minI (phaseI e p t) (p - phaseI e p t))
def modelMagI (a b c e p m t : Int) : Int × Int := if !modelB a b c || !ephB e p then (0, 1) else if !magB m || !timeB t then (0, 2) else (magAtI a b c e p m t, 0)
theorem roundI_bd (n d k : Int) (h0 : 0 ≤ n) (h : n ≤ k * d) (hd : 0 < d) : 0 ≤ roundI n d ∧ roundI n d ≤ k := by
  unfold roundI
  refine ⟨Int.ediv_nonneg (by omega) (by omega), ?_⟩
  have h1 : 2 * n + d < (k + 1) * (2 * d) := by rw [Int.add_mul, Int.mul_left_comm]; omega
  have := Int.ediv_lt_of_lt_mul (show 0 < 2 * d by omega) h1
  omega
theorem dropI_bd {a b c : Int} (d : Int) (h : modelB a b c = true) : 0 ≤ dropI a b c d ∧ dropI a b c d ≤ a := by
  obtain ⟨m1, m2, m3, m4, m5⟩ := modelB_iff.1 h
  unfold dropI
  split
  · omega
  · split
    · omega
    · refine roundI_bd _ _ _ (Int.mul_nonneg (by omega) (by omega)) ?_ (by omega)
      exact Int.mul_le_mul_of_nonneg_left (by omega) (by omega)
set_option maxHeartbeats 1000000 in
theorem magAt_c (a b c e p m t : Int) (hm : modelB a b c = true) (he : ephB e p = true) (h1 : 0 ≤ t) (h2 : t ≤ 10000000) (h3 : -2000 ≤ m) (h4 : m ≤ 20000) (w : World) :
    Calls Try.prog 64 #[.agg #[.int .i64 a, .int .i64 b, .int .i64 c], .agg #[.int .i64 e, .int .i64 p], .int .i64 m, .int .i64 t] w (Ret (.int .i64 (magAtI a b c e p m t)) w) := by
  refine hide_ret fun v H => ?_
  obtain ⟨e1, e2, p1, p2⟩ := ephB_iff.1 he
  have hA := (modelB_iff.1 hm).2.1
  have r0 : 0 ≤ phaseI e p t := Int.emod_nonneg (t - e) (show p ≠ 0 by omega)
  have r1 : phaseI e p t < p := Int.emod_lt_of_pos (t - e) (show 0 < p by omega)
  by_cases hlt : phaseI e p t ≤ p - phaseI e p t
  · obtain ⟨d1, d2⟩ := dropI_bd (phaseI e p t) hm
    rw [show magAtI a b c e p m t = m + dropI a b c (phaseI e p t) from by unfold magAtI minI; split <;> first | rfl | (congr 2; omega) | omega] at H
    go_enter Try.func64, Try.ntmps64
    go_wp2_with (first | (go_at_call 83; refine (phase_c _ _ _ (by assumption) (by omega) (by omega) _).mono ?_; rintro ee ww ⟨rfl, _, rfl⟩) | (go_at_call 52; refine (drop_c _ _ _ _ (by assumption) _).mono ?_; rintro ee ww ⟨rfl, _, rfl⟩))
    go_ret
    refine Ret.mk ?_ (?_ : Bel _ _)
    · exact H.out
    · (repeat (first | with_reducible exact Bel.refl _ | with_reducible assumption | apply Bel.ext | apply Bel.alloc | apply Bel.drew | exact Bel.refl _ | refine Bel.set ?_ (by first | (simp; done) | (simp [go_sem]; done) | omega) _))
  · obtain ⟨d1, d2⟩ := dropI_bd (p - phaseI e p t) hm
    rw [show magAtI a b c e p m t = m + dropI a b c (p - phaseI e p t) from by unfold magAtI minI; split <;> first | rfl | (congr 2; omega) | omega] at H
    go_enter Try.func64, Try.ntmps64
    go_wp2_with (first | (go_at_call 83; refine (phase_c _ _ _ (by assumption) (by omega) (by omega) _).mono ?_; rintro ee ww ⟨rfl, _, rfl⟩) | (go_at_call 52; refine (drop_c _ _ _ _ (by assumption) _).mono ?_; rintro ee ww ⟨rfl, _, rfl⟩))
    go_ret
    refine Ret.mk ?_ (?_ : Bel _ _)
    · exact H.out
    · (repeat (first | with_reducible exact Bel.refl _ | with_reducible assumption | apply Bel.ext | apply Bel.alloc | apply Bel.drew | exact Bel.refl _ | refine Bel.set ?_ (by first | (simp; done) | (simp [go_sem]; done) | omega) _))
set_option maxHeartbeats 1000000 in
theorem l14Mag_c (a b c e p m t : Int) (hm : modelB a b c = true) (he : ephB e p = true) (h1 : 0 ≤ t) (h2 : t ≤ 10000000) (h3 : -2000 ≤ m) (h4 : m ≤ 20000) (w : World) :
    Calls Try.prog 61 #[.agg #[.int .i64 a, .int .i64 b, .int .i64 c], .agg #[.int .i64 e, .int .i64 p], .int .i64 m, .int .i64 t] w (Ret (.int .i64 (magAtI a b c e p m t)) w) := by
  refine hide_ret fun v H => ?_
  obtain ⟨e1, e2, p1, p2⟩ := ephB_iff.1 he
  have hA := (modelB_iff.1 hm).2.1
  have r0 : 0 ≤ phaseI e p t := Int.emod_nonneg (t - e) (show p ≠ 0 by omega)
  have r1 : phaseI e p t < p := Int.emod_lt_of_pos (t - e) (show 0 < p by omega)
  obtain ⟨d1, d2⟩ := dropI_bd (minI (phaseI e p t) (p - phaseI e p t)) hm
  have w1 : IntKind.i64.wrap (p - phaseI e p t) = p - phaseI e p t := IntWalk.i64_in _ (by omega)
  have w2 : IntKind.i64.wrap (m + dropI a b c (minI (phaseI e p t) (p - phaseI e p t))) = m + dropI a b c (minI (phaseI e p t) (p - phaseI e p t)) := IntWalk.i64_in _ (by omega)
  unfold magAtI at H
  go_enter Try.func61, Try.ntmps61
  go_wp2_with (first | (go_at_call 82; refine (l09Phase_c _ _ _ (by assumption) (by omega) (by omega) _).mono ?_; rintro ee ww ⟨rfl, _, rfl⟩) | (go_at_call 57; refine (l00Min_c _ _ _).mono ?_; rintro ee ww ⟨rfl, rfl⟩) | (go_at_call 50; refine (l14Drop_c _ _ _ _ (by assumption) _).mono ?_; rintro ee ww ⟨rfl, _, rfl⟩))
  all_goals (try ((refine region_ext (by kernel_rfl) (by kernel_rfl) ?_; (repeat (go_big_quiet_step (first | (go_at_call 82; exact Calls.in_ret (l09Phase_c _ _ _ (by assumption) (by omega) (by omega) _)) | (go_at_call 57; exact Calls.in_same (l00Min_c _ _ _)) | (go_at_call 50; exact Calls.in_ret (l14Drop_c _ _ _ _ (by assumption) _))))); refine wpQuiet_nil ?_; rintro _ ⟨_, rfl⟩); go_wp2_with (first | (go_at_call 82; refine (l09Phase_c _ _ _ (by assumption) (by omega) (by omega) _).mono ?_; rintro ee ww ⟨rfl, _, rfl⟩) | (go_at_call 57; refine (l00Min_c _ _ _).mono ?_; rintro ee ww ⟨rfl, rfl⟩) | (go_at_call 50; refine (l14Drop_c _ _ _ _ (by assumption) _).mono ?_; rintro ee ww ⟨rfl, _, rfl⟩))))
  go_ret
  refine Ret.mk ?_ (?_ : Bel _ _)
  · exact H.out
  · (repeat (first | with_reducible exact Bel.refl _ | with_reducible assumption | apply Bel.ext | apply Bel.alloc | apply Bel.drew | exact Bel.refl _ | refine Bel.set ?_ (by first | (simp; done) | (simp [go_sem]; done) | omega) _))
set_option maxHeartbeats 1000000 in
theorem ModelMag_c (a b c e p m t : Int) (w : World) :
    Calls Try.prog 29 #[.agg #[.int .i64 a, .int .i64 b, .int .i64 c], .agg #[.int .i64 e, .int .i64 p], .int .i64 m, .int .i64 t] w (Ret (.tuple #[.int .i64 (modelMagI a b c e p m t).1, .int .i64 (modelMagI a b c e p m t).2]) w) := by
  refine hide_ret fun v H => ?_
  rcases hm : modelB a b c with _ | _ <;> rcases he : ephB e p with _ | _ <;> rcases h1 : magB m with _ | _ <;> rcases h2 : timeB t with _ | _ <;> simp only [modelMagI, hm, he, h1, h2, Bool.not_true, Bool.not_false, Bool.or_true, Bool.or_false, if_true, if_false, Bool.false_eq_true] at H
  case true.true.true.true =>
    obtain ⟨m1, m2⟩ := magB_iff.1 h1
    obtain ⟨t1, t2⟩ := timeB_iff.1 h2
    go_enter Try.func29, Try.ntmps29
    go_wp2_with (first | (go_at_call 14; refine (ValidModel_c _ _ _ _).mono ?_; rintro ee ww ⟨rfl, _, rfl⟩) | (go_at_call 55; refine (ValidEphemeris_c _ _ _).mono ?_; rintro ee ww ⟨rfl, _, rfl⟩) | (go_at_call 62; refine (ValidMag_c _ _).mono ?_; rintro ee ww ⟨rfl, rfl⟩) | (go_at_call 63; refine (ValidTime_c _ _).mono ?_; rintro ee ww ⟨rfl, rfl⟩) | (go_at_call 64; refine (magAt_c _ _ _ _ _ _ _ (by assumption) (by assumption) (by omega) (by omega) (by omega) (by omega) _).mono ?_; rintro ee ww ⟨rfl, _, rfl⟩))
    all_goals (try ((refine region_ext (by kernel_rfl) (by kernel_rfl) ?_; (repeat (go_big_quiet_step (first | (go_at_call 14; exact Calls.in_ret (ValidModel_c _ _ _ _)) | (go_at_call 55; exact Calls.in_ret (ValidEphemeris_c _ _ _)) | (go_at_call 62; exact Calls.in_same (ValidMag_c _ _)) | (go_at_call 63; exact Calls.in_same (ValidTime_c _ _)) | (go_at_call 64; exact Calls.in_ret (magAt_c _ _ _ _ _ _ _ (by assumption) (by assumption) (by omega) (by omega) (by omega) (by omega) _))))); refine wpQuiet_nil ?_; rintro _ ⟨_, rfl⟩); go_wp2_with (first | (go_at_call 14; refine (ValidModel_c _ _ _ _).mono ?_; rintro ee ww ⟨rfl, _, rfl⟩) | (go_at_call 55; refine (ValidEphemeris_c _ _ _).mono ?_; rintro ee ww ⟨rfl, _, rfl⟩) | (go_at_call 62; refine (ValidMag_c _ _).mono ?_; rintro ee ww ⟨rfl, rfl⟩) | (go_at_call 63; refine (ValidTime_c _ _).mono ?_; rintro ee ww ⟨rfl, rfl⟩) | (go_at_call 64; refine (magAt_c _ _ _ _ _ _ _ (by assumption) (by assumption) (by omega) (by omega) (by omega) (by omega) _).mono ?_; rintro ee ww ⟨rfl, _, rfl⟩))))
    all_goals (try ((refine region_ext (by kernel_rfl) (by kernel_rfl) ?_; (repeat (go_big_quiet_step (first | (go_at_call 14; exact Calls.in_ret (ValidModel_c _ _ _ _)) | (go_at_call 55; exact Calls.in_ret (ValidEphemeris_c _ _ _)) | (go_at_call 62; exact Calls.in_same (ValidMag_c _ _)) | (go_at_call 63; exact Calls.in_same (ValidTime_c _ _)) | (go_at_call 64; exact Calls.in_ret (magAt_c _ _ _ _ _ _ _ (by assumption) (by assumption) (by omega) (by omega) (by omega) (by omega) _))))); refine wpQuiet_nil ?_; rintro _ ⟨_, rfl⟩); go_wp2_with (first | (go_at_call 14; refine (ValidModel_c _ _ _ _).mono ?_; rintro ee ww ⟨rfl, _, rfl⟩) | (go_at_call 55; refine (ValidEphemeris_c _ _ _).mono ?_; rintro ee ww ⟨rfl, _, rfl⟩) | (go_at_call 62; refine (ValidMag_c _ _).mono ?_; rintro ee ww ⟨rfl, rfl⟩) | (go_at_call 63; refine (ValidTime_c _ _).mono ?_; rintro ee ww ⟨rfl, rfl⟩) | (go_at_call 64; refine (magAt_c _ _ _ _ _ _ _ (by assumption) (by assumption) (by omega) (by omega) (by omega) (by omega) _).mono ?_; rintro ee ww ⟨rfl, _, rfl⟩))))
    go_ret2
    refine Ret.mk ?_ (?_ : Bel _ _)
    · exact H.out
    · (repeat (first | with_reducible exact Bel.refl _ | with_reducible assumption | apply Bel.ext | apply Bel.alloc | apply Bel.drew | exact Bel.refl _ | refine Bel.set ?_ (by first | (simp; done) | (simp [go_sem]; done) | omega) _))
  all_goals
    go_enter Try.func29, Try.ntmps29
    go_wp2_with (first | (go_at_call 14; refine (ValidModel_c _ _ _ _).mono ?_; rintro ee ww ⟨rfl, _, rfl⟩) | (go_at_call 55; refine (ValidEphemeris_c _ _ _).mono ?_; rintro ee ww ⟨rfl, _, rfl⟩) | (go_at_call 62; refine (ValidMag_c _ _).mono ?_; rintro ee ww ⟨rfl, rfl⟩) | (go_at_call 63; refine (ValidTime_c _ _).mono ?_; rintro ee ww ⟨rfl, rfl⟩))
    all_goals (try ((refine region_ext (by kernel_rfl) (by kernel_rfl) ?_; (repeat (go_big_quiet_step (first | (go_at_call 14; exact Calls.in_ret (ValidModel_c _ _ _ _)) | (go_at_call 55; exact Calls.in_ret (ValidEphemeris_c _ _ _)) | (go_at_call 62; exact Calls.in_same (ValidMag_c _ _)) | (go_at_call 63; exact Calls.in_same (ValidTime_c _ _))))); refine wpQuiet_nil ?_; rintro _ ⟨_, rfl⟩); go_wp2_with (first | (go_at_call 14; refine (ValidModel_c _ _ _ _).mono ?_; rintro ee ww ⟨rfl, _, rfl⟩) | (go_at_call 55; refine (ValidEphemeris_c _ _ _).mono ?_; rintro ee ww ⟨rfl, _, rfl⟩) | (go_at_call 62; refine (ValidMag_c _ _).mono ?_; rintro ee ww ⟨rfl, rfl⟩) | (go_at_call 63; refine (ValidTime_c _ _).mono ?_; rintro ee ww ⟨rfl, rfl⟩))))
    all_goals (try ((refine region_ext (by kernel_rfl) (by kernel_rfl) ?_; (repeat (go_big_quiet_step (first | (go_at_call 14; exact Calls.in_ret (ValidModel_c _ _ _ _)) | (go_at_call 55; exact Calls.in_ret (ValidEphemeris_c _ _ _)) | (go_at_call 62; exact Calls.in_same (ValidMag_c _ _)) | (go_at_call 63; exact Calls.in_same (ValidTime_c _ _))))); refine wpQuiet_nil ?_; rintro _ ⟨_, rfl⟩); go_wp2_with (first | (go_at_call 14; refine (ValidModel_c _ _ _ _).mono ?_; rintro ee ww ⟨rfl, _, rfl⟩) | (go_at_call 55; refine (ValidEphemeris_c _ _ _).mono ?_; rintro ee ww ⟨rfl, _, rfl⟩) | (go_at_call 62; refine (ValidMag_c _ _).mono ?_; rintro ee ww ⟨rfl, rfl⟩) | (go_at_call 63; refine (ValidTime_c _ _).mono ?_; rintro ee ww ⟨rfl, rfl⟩))))
    go_ret2
    refine Ret.mk ?_ (?_ : Bel _ _)
    · exact H.out
    · (repeat (first | with_reducible exact Bel.refl _ | with_reducible assumption | apply Bel.ext | apply Bel.alloc | apply Bel.drew | exact Bel.refl _ | refine Bel.set ?_ (by first | (simp; done) | (simp [go_sem]; done) | omega) _))
set_option maxHeartbeats 1000000 in
theorem sModelMag_c (a b c e p m t : Int) (w : World) :
    Calls Try.prog 28 #[.agg #[.int .i64 a, .int .i64 b, .int .i64 c], .agg #[.int .i64 e, .int .i64 p], .int .i64 m, .int .i64 t] w (Ret (.tuple #[.int .i64 (modelMagI a b c e p m t).1, .int .i64 (modelMagI a b c e p m t).2]) w) := by
  refine hide_ret fun v H => ?_
  rcases hm : modelB a b c with _ | _ <;> rcases he : ephB e p with _ | _ <;> rcases h1 : magB m with _ | _ <;> rcases h2 : timeB t with _ | _ <;> simp only [modelMagI, hm, he, h1, h2, Bool.not_true, Bool.not_false, Bool.or_true, Bool.or_false, if_true, if_false, Bool.false_eq_true] at H
  case true.true.true.true =>
    obtain ⟨m1, m2⟩ := magB_iff.1 h1
    obtain ⟨t1, t2⟩ := timeB_iff.1 h2
    go_enter Try.func28, Try.ntmps28
    go_wp2_with (first | (go_at_call 47; refine (l14Ok_c _ _ _ _).mono ?_; rintro ee ww ⟨rfl, _, rfl⟩) | (go_at_call 54; refine (l09Ok_c _ _ _).mono ?_; rintro ee ww ⟨rfl, _, rfl⟩) | (go_at_call 59; refine (l02Mag_c _ _).mono ?_; rintro ee ww ⟨rfl, rfl⟩) | (go_at_call 60; refine (l06Time_c _ _).mono ?_; rintro ee ww ⟨rfl, rfl⟩) | (go_at_call 61; refine (l14Mag_c _ _ _ _ _ _ _ (by assumption) (by assumption) (by omega) (by omega) (by omega) (by omega) _).mono ?_; rintro ee ww ⟨rfl, _, rfl⟩))
    all_goals (try ((refine region_ext (by kernel_rfl) (by kernel_rfl) ?_; (repeat (go_big_quiet_step (first | (go_at_call 47; exact Calls.in_ret (l14Ok_c _ _ _ _)) | (go_at_call 54; exact Calls.in_ret (l09Ok_c _ _ _)) | (go_at_call 59; exact Calls.in_same (l02Mag_c _ _)) | (go_at_call 60; exact Calls.in_same (l06Time_c _ _)) | (go_at_call 61; exact Calls.in_ret (l14Mag_c _ _ _ _ _ _ _ (by assumption) (by assumption) (by omega) (by omega) (by omega) (by omega) _))))); refine wpQuiet_nil ?_; rintro _ ⟨_, rfl⟩); go_wp2_with (first | (go_at_call 47; refine (l14Ok_c _ _ _ _).mono ?_; rintro ee ww ⟨rfl, _, rfl⟩) | (go_at_call 54; refine (l09Ok_c _ _ _).mono ?_; rintro ee ww ⟨rfl, _, rfl⟩) | (go_at_call 59; refine (l02Mag_c _ _).mono ?_; rintro ee ww ⟨rfl, rfl⟩) | (go_at_call 60; refine (l06Time_c _ _).mono ?_; rintro ee ww ⟨rfl, rfl⟩) | (go_at_call 61; refine (l14Mag_c _ _ _ _ _ _ _ (by assumption) (by assumption) (by omega) (by omega) (by omega) (by omega) _).mono ?_; rintro ee ww ⟨rfl, _, rfl⟩))))
    all_goals (try ((refine region_ext (by kernel_rfl) (by kernel_rfl) ?_; (repeat (go_big_quiet_step (first | (go_at_call 47; exact Calls.in_ret (l14Ok_c _ _ _ _)) | (go_at_call 54; exact Calls.in_ret (l09Ok_c _ _ _)) | (go_at_call 59; exact Calls.in_same (l02Mag_c _ _)) | (go_at_call 60; exact Calls.in_same (l06Time_c _ _)) | (go_at_call 61; exact Calls.in_ret (l14Mag_c _ _ _ _ _ _ _ (by assumption) (by assumption) (by omega) (by omega) (by omega) (by omega) _))))); refine wpQuiet_nil ?_; rintro _ ⟨_, rfl⟩); go_wp2_with (first | (go_at_call 47; refine (l14Ok_c _ _ _ _).mono ?_; rintro ee ww ⟨rfl, _, rfl⟩) | (go_at_call 54; refine (l09Ok_c _ _ _).mono ?_; rintro ee ww ⟨rfl, _, rfl⟩) | (go_at_call 59; refine (l02Mag_c _ _).mono ?_; rintro ee ww ⟨rfl, rfl⟩) | (go_at_call 60; refine (l06Time_c _ _).mono ?_; rintro ee ww ⟨rfl, rfl⟩) | (go_at_call 61; refine (l14Mag_c _ _ _ _ _ _ _ (by assumption) (by assumption) (by omega) (by omega) (by omega) (by omega) _).mono ?_; rintro ee ww ⟨rfl, _, rfl⟩))))
    go_ret2
    refine Ret.mk ?_ (?_ : Bel _ _)
    · exact H.out
    · (repeat (first | with_reducible exact Bel.refl _ | with_reducible assumption | apply Bel.ext | apply Bel.alloc | apply Bel.drew | exact Bel.refl _ | refine Bel.set ?_ (by first | (simp; done) | (simp [go_sem]; done) | omega) _))
  all_goals
    go_enter Try.func28, Try.ntmps28
    go_wp2_with (first | (go_at_call 47; refine (l14Ok_c _ _ _ _).mono ?_; rintro ee ww ⟨rfl, _, rfl⟩) | (go_at_call 54; refine (l09Ok_c _ _ _).mono ?_; rintro ee ww ⟨rfl, _, rfl⟩) | (go_at_call 59; refine (l02Mag_c _ _).mono ?_; rintro ee ww ⟨rfl, rfl⟩) | (go_at_call 60; refine (l06Time_c _ _).mono ?_; rintro ee ww ⟨rfl, rfl⟩))
    all_goals (try ((refine region_ext (by kernel_rfl) (by kernel_rfl) ?_; (repeat (go_big_quiet_step (first | (go_at_call 47; exact Calls.in_ret (l14Ok_c _ _ _ _)) | (go_at_call 54; exact Calls.in_ret (l09Ok_c _ _ _)) | (go_at_call 59; exact Calls.in_same (l02Mag_c _ _)) | (go_at_call 60; exact Calls.in_same (l06Time_c _ _))))); refine wpQuiet_nil ?_; rintro _ ⟨_, rfl⟩); go_wp2_with (first | (go_at_call 47; refine (l14Ok_c _ _ _ _).mono ?_; rintro ee ww ⟨rfl, _, rfl⟩) | (go_at_call 54; refine (l09Ok_c _ _ _).mono ?_; rintro ee ww ⟨rfl, _, rfl⟩) | (go_at_call 59; refine (l02Mag_c _ _).mono ?_; rintro ee ww ⟨rfl, rfl⟩) | (go_at_call 60; refine (l06Time_c _ _).mono ?_; rintro ee ww ⟨rfl, rfl⟩))))
    all_goals (try ((refine region_ext (by kernel_rfl) (by kernel_rfl) ?_; (repeat (go_big_quiet_step (first | (go_at_call 47; exact Calls.in_ret (l14Ok_c _ _ _ _)) | (go_at_call 54; exact Calls.in_ret (l09Ok_c _ _ _)) | (go_at_call 59; exact Calls.in_same (l02Mag_c _ _)) | (go_at_call 60; exact Calls.in_same (l06Time_c _ _))))); refine wpQuiet_nil ?_; rintro _ ⟨_, rfl⟩); go_wp2_with (first | (go_at_call 47; refine (l14Ok_c _ _ _ _).mono ?_; rintro ee ww ⟨rfl, _, rfl⟩) | (go_at_call 54; refine (l09Ok_c _ _ _).mono ?_; rintro ee ww ⟨rfl, _, rfl⟩) | (go_at_call 59; refine (l02Mag_c _ _).mono ?_; rintro ee ww ⟨rfl, rfl⟩) | (go_at_call 60; refine (l06Time_c _ _).mono ?_; rintro ee ww ⟨rfl, rfl⟩))))
    go_ret2
    refine Ret.mk ?_ (?_ : Bel _ _)
    · exact H.out
    · (repeat (first | with_reducible exact Bel.refl _ | with_reducible assumption | apply Bel.ext | apply Bel.alloc | apply Bel.drew | exact Bel.refl _ | refine Bel.set ?_ (by first | (simp; done) | (simp [go_sem]; done) | omega) _))
def shareI (a b c e p : Int) : Int × Int × Int := if !modelB a b c || !ephB e p then (0, 0, 1) else (fracN (minI (2 * b) p) p, fracD (minI (2 * b) p) p, 0)
set_option maxHeartbeats 1000000 in
theorem EclipsedShare_c (a b c e p : Int) (w : World) :
    Calls Try.prog 26 #[.agg #[.int .i64 a, .int .i64 b, .int .i64 c], .agg #[.int .i64 e, .int .i64 p]] w (Ret (.tuple #[.agg #[.int .i64 (shareI a b c e p).1, .int .i64 (shareI a b c e p).2.1], .int .i64 (shareI a b c e p).2.2]) w) := by
  refine hide_ret fun v H => ?_
  rcases hm : modelB a b c with _ | _
  · simp only [shareI, hm, Bool.not_true, Bool.not_false, Bool.true_or, Bool.or_true, Bool.false_or, Bool.or_false, Bool.true_and, Bool.and_true, Bool.false_and, Bool.and_false, if_true, if_false, Bool.false_eq_true] at H
    go_enter Try.func26, Try.ntmps26
    go_wp2_with (first | (go_at_call 14; refine (ValidModel_c _ _ _ _).mono ?_; rintro ee ww ⟨rfl, _, rfl⟩) | (go_at_call 55; refine (ValidEphemeris_c _ _ _).mono ?_; rintro ee ww ⟨rfl, _, rfl⟩))
    all_goals (try ((refine region_ext (by kernel_rfl) (by kernel_rfl) ?_; (repeat (go_big_quiet_step (first | (go_at_call 14; exact Calls.in_ret (ValidModel_c _ _ _ _)) | (go_at_call 55; exact Calls.in_ret (ValidEphemeris_c _ _ _))))); refine wpQuiet_nil ?_; rintro _ ⟨_, rfl⟩); go_wp2_with (first | (go_at_call 14; refine (ValidModel_c _ _ _ _).mono ?_; rintro ee ww ⟨rfl, _, rfl⟩) | (go_at_call 55; refine (ValidEphemeris_c _ _ _).mono ?_; rintro ee ww ⟨rfl, _, rfl⟩))))
    all_goals (try ((refine region_ext (by kernel_rfl) (by kernel_rfl) ?_; (repeat (go_big_quiet_step (first | (go_at_call 14; exact Calls.in_ret (ValidModel_c _ _ _ _)) | (go_at_call 55; exact Calls.in_ret (ValidEphemeris_c _ _ _))))); refine wpQuiet_nil ?_; rintro _ ⟨_, rfl⟩); go_wp2_with (first | (go_at_call 14; refine (ValidModel_c _ _ _ _).mono ?_; rintro ee ww ⟨rfl, _, rfl⟩) | (go_at_call 55; refine (ValidEphemeris_c _ _ _).mono ?_; rintro ee ww ⟨rfl, _, rfl⟩))))
    refine bodyPost_ret (v := .tuple #[.agg #[.int .i64 0, .int .i64 0], .int .i64 1]) (by simp (maxDischargeDepth := 8) [results, Try.results26, go_sem]) rfl (Ret.mk ?_ (?_ : Bel _ _))
    · exact H.out
    · (repeat (first | with_reducible exact Bel.refl _ | with_reducible assumption | apply Bel.ext | apply Bel.alloc | apply Bel.drew | exact Bel.refl _ | refine Bel.set ?_ (by first | (simp; done) | (simp [go_sem]; done) | omega) _))
  · rcases he : ephB e p with _ | _
    · simp only [shareI, hm, he, Bool.not_true, Bool.not_false, Bool.true_or, Bool.or_true, Bool.false_or, Bool.or_false, Bool.true_and, Bool.and_true, Bool.false_and, Bool.and_false, if_true, if_false, Bool.false_eq_true] at H
      go_enter Try.func26, Try.ntmps26
      go_wp2_with (first | (go_at_call 14; refine (ValidModel_c _ _ _ _).mono ?_; rintro ee ww ⟨rfl, _, rfl⟩) | (go_at_call 55; refine (ValidEphemeris_c _ _ _).mono ?_; rintro ee ww ⟨rfl, _, rfl⟩))
      all_goals (try ((refine region_ext (by kernel_rfl) (by kernel_rfl) ?_; (repeat (go_big_quiet_step (first | (go_at_call 14; exact Calls.in_ret (ValidModel_c _ _ _ _)) | (go_at_call 55; exact Calls.in_ret (ValidEphemeris_c _ _ _))))); refine wpQuiet_nil ?_; rintro _ ⟨_, rfl⟩); go_wp2_with (first | (go_at_call 14; refine (ValidModel_c _ _ _ _).mono ?_; rintro ee ww ⟨rfl, _, rfl⟩) | (go_at_call 55; refine (ValidEphemeris_c _ _ _).mono ?_; rintro ee ww ⟨rfl, _, rfl⟩))))
      all_goals (try ((refine region_ext (by kernel_rfl) (by kernel_rfl) ?_; (repeat (go_big_quiet_step (first | (go_at_call 14; exact Calls.in_ret (ValidModel_c _ _ _ _)) | (go_at_call 55; exact Calls.in_ret (ValidEphemeris_c _ _ _))))); refine wpQuiet_nil ?_; rintro _ ⟨_, rfl⟩); go_wp2_with (first | (go_at_call 14; refine (ValidModel_c _ _ _ _).mono ?_; rintro ee ww ⟨rfl, _, rfl⟩) | (go_at_call 55; refine (ValidEphemeris_c _ _ _).mono ?_; rintro ee ww ⟨rfl, _, rfl⟩))))
      refine bodyPost_ret (v := .tuple #[.agg #[.int .i64 0, .int .i64 0], .int .i64 1]) (by simp (maxDischargeDepth := 8) [results, Try.results26, go_sem]) rfl (Ret.mk ?_ (?_ : Bel _ _))
      · exact H.out
      · (repeat (first | with_reducible exact Bel.refl _ | with_reducible assumption | apply Bel.ext | apply Bel.alloc | apply Bel.drew | exact Bel.refl _ | refine Bel.set ?_ (by first | (simp; done) | (simp [go_sem]; done) | omega) _))
    · simp only [shareI, hm, he, Bool.not_true, Bool.not_false, Bool.true_or, Bool.or_true, Bool.false_or, Bool.or_false, Bool.true_and, Bool.and_true, Bool.false_and, Bool.and_false, if_true, if_false, Bool.false_eq_true] at H
      obtain ⟨e1, e2, p1, p2⟩ := ephB_iff.1 he
      obtain ⟨m1, m2, m3, m4, m5⟩ := modelB_iff.1 hm
      generalize hq : minI (2 * b) p = Q at *
      by_cases hlt : 2 * b ≤ p
      · obtain rfl : Q = 2 * b := by rw [← hq]; unfold minI; split <;> omega
        clear hq
        go_enter Try.func26, Try.ntmps26
        go_wp2_with (first | (go_at_call 14; refine (ValidModel_c _ _ _ _).mono ?_; rintro ee ww ⟨rfl, _, rfl⟩) | (go_at_call 55; refine (ValidEphemeris_c _ _ _).mono ?_; rintro ee ww ⟨rfl, _, rfl⟩) | (go_at_call 58; refine (lowest_c _ _ (by omega) (by omega) (by omega) (by omega) _).mono ?_; rintro ee ww ⟨rfl, _, rfl⟩))
        refine bodyPost_ret (v := .tuple #[.agg #[.int .i64 (fracN (2 * b) p), .int .i64 (fracD (2 * b) p)], .int .i64 0]) (by simp (maxDischargeDepth := 8) [results, Try.results26, go_sem]) rfl (Ret.mk ?_ (?_ : Bel _ _))
        · exact H.out
        · (repeat (first | with_reducible exact Bel.refl _ | with_reducible assumption | apply Bel.ext | apply Bel.alloc | apply Bel.drew | exact Bel.refl _ | refine Bel.set ?_ (by first | (simp; done) | (simp [go_sem]; done) | omega) _))
      · obtain rfl : Q = p := by rw [← hq]; unfold minI; split <;> omega
        clear hq
        go_enter Try.func26, Try.ntmps26
        go_wp2_with (first | (go_at_call 14; refine (ValidModel_c _ _ _ _).mono ?_; rintro ee ww ⟨rfl, _, rfl⟩) | (go_at_call 55; refine (ValidEphemeris_c _ _ _).mono ?_; rintro ee ww ⟨rfl, _, rfl⟩) | (go_at_call 58; refine (lowest_c _ _ (by omega) (by omega) (by omega) (by omega) _).mono ?_; rintro ee ww ⟨rfl, _, rfl⟩))
        refine bodyPost_ret (v := .tuple #[.agg #[.int .i64 (fracN Q Q), .int .i64 (fracD Q Q)], .int .i64 0]) (by simp (maxDischargeDepth := 8) [results, Try.results26, go_sem]) rfl (Ret.mk ?_ (?_ : Bel _ _))
        · exact H.out
        · (repeat (first | with_reducible exact Bel.refl _ | with_reducible assumption | apply Bel.ext | apply Bel.alloc | apply Bel.drew | exact Bel.refl _ | refine Bel.set ?_ (by first | (simp; done) | (simp [go_sem]; done) | omega) _))
set_option maxHeartbeats 1000000 in
theorem sEclipsedShare_c (a b c e p : Int) (w : World) :
    Calls Try.prog 25 #[.agg #[.int .i64 a, .int .i64 b, .int .i64 c], .agg #[.int .i64 e, .int .i64 p]] w (Ret (.tuple #[.agg #[.int .i64 (shareI a b c e p).1, .int .i64 (shareI a b c e p).2.1], .int .i64 (shareI a b c e p).2.2]) w) := by
  refine hide_ret fun v H => ?_
  rcases hm : modelB a b c with _ | _
  · simp only [shareI, hm, Bool.not_true, Bool.not_false, Bool.true_or, Bool.or_true, Bool.false_or, Bool.or_false, Bool.true_and, Bool.and_true, Bool.false_and, Bool.and_false, if_true, if_false, Bool.false_eq_true] at H
    go_enter Try.func25, Try.ntmps25
    go_wp2_with (first | (go_at_call 47; refine (l14Ok_c _ _ _ _).mono ?_; rintro ee ww ⟨rfl, _, rfl⟩) | (go_at_call 54; refine (l09Ok_c _ _ _).mono ?_; rintro ee ww ⟨rfl, _, rfl⟩))
    all_goals (try ((refine region_ext (by kernel_rfl) (by kernel_rfl) ?_; (repeat (go_big_quiet_step (first | (go_at_call 47; exact Calls.in_ret (l14Ok_c _ _ _ _)) | (go_at_call 54; exact Calls.in_ret (l09Ok_c _ _ _))))); refine wpQuiet_nil ?_; rintro _ ⟨_, rfl⟩); go_wp2_with (first | (go_at_call 47; refine (l14Ok_c _ _ _ _).mono ?_; rintro ee ww ⟨rfl, _, rfl⟩) | (go_at_call 54; refine (l09Ok_c _ _ _).mono ?_; rintro ee ww ⟨rfl, _, rfl⟩))))
    all_goals (try ((refine region_ext (by kernel_rfl) (by kernel_rfl) ?_; (repeat (go_big_quiet_step (first | (go_at_call 47; exact Calls.in_ret (l14Ok_c _ _ _ _)) | (go_at_call 54; exact Calls.in_ret (l09Ok_c _ _ _))))); refine wpQuiet_nil ?_; rintro _ ⟨_, rfl⟩); go_wp2_with (first | (go_at_call 47; refine (l14Ok_c _ _ _ _).mono ?_; rintro ee ww ⟨rfl, _, rfl⟩) | (go_at_call 54; refine (l09Ok_c _ _ _).mono ?_; rintro ee ww ⟨rfl, _, rfl⟩))))
    refine bodyPost_ret (v := .tuple #[.agg #[.int .i64 0, .int .i64 0], .int .i64 1]) (by simp (maxDischargeDepth := 8) [results, Try.results25, go_sem]) rfl (Ret.mk ?_ (?_ : Bel _ _))
    · exact H.out
    · (repeat (first | with_reducible exact Bel.refl _ | with_reducible assumption | apply Bel.ext | apply Bel.alloc | apply Bel.drew | exact Bel.refl _ | refine Bel.set ?_ (by first | (simp; done) | (simp [go_sem]; done) | omega) _))
  · rcases he : ephB e p with _ | _
    · simp only [shareI, hm, he, Bool.not_true, Bool.not_false, Bool.true_or, Bool.or_true, Bool.false_or, Bool.or_false, Bool.true_and, Bool.and_true, Bool.false_and, Bool.and_false, if_true, if_false, Bool.false_eq_true] at H
      go_enter Try.func25, Try.ntmps25
      go_wp2_with (first | (go_at_call 47; refine (l14Ok_c _ _ _ _).mono ?_; rintro ee ww ⟨rfl, _, rfl⟩) | (go_at_call 54; refine (l09Ok_c _ _ _).mono ?_; rintro ee ww ⟨rfl, _, rfl⟩))
      all_goals (try ((refine region_ext (by kernel_rfl) (by kernel_rfl) ?_; (repeat (go_big_quiet_step (first | (go_at_call 47; exact Calls.in_ret (l14Ok_c _ _ _ _)) | (go_at_call 54; exact Calls.in_ret (l09Ok_c _ _ _))))); refine wpQuiet_nil ?_; rintro _ ⟨_, rfl⟩); go_wp2_with (first | (go_at_call 47; refine (l14Ok_c _ _ _ _).mono ?_; rintro ee ww ⟨rfl, _, rfl⟩) | (go_at_call 54; refine (l09Ok_c _ _ _).mono ?_; rintro ee ww ⟨rfl, _, rfl⟩))))
      all_goals (try ((refine region_ext (by kernel_rfl) (by kernel_rfl) ?_; (repeat (go_big_quiet_step (first | (go_at_call 47; exact Calls.in_ret (l14Ok_c _ _ _ _)) | (go_at_call 54; exact Calls.in_ret (l09Ok_c _ _ _))))); refine wpQuiet_nil ?_; rintro _ ⟨_, rfl⟩); go_wp2_with (first | (go_at_call 47; refine (l14Ok_c _ _ _ _).mono ?_; rintro ee ww ⟨rfl, _, rfl⟩) | (go_at_call 54; refine (l09Ok_c _ _ _).mono ?_; rintro ee ww ⟨rfl, _, rfl⟩))))
      refine bodyPost_ret (v := .tuple #[.agg #[.int .i64 0, .int .i64 0], .int .i64 1]) (by simp (maxDischargeDepth := 8) [results, Try.results25, go_sem]) rfl (Ret.mk ?_ (?_ : Bel _ _))
      · exact H.out
      · (repeat (first | with_reducible exact Bel.refl _ | with_reducible assumption | apply Bel.ext | apply Bel.alloc | apply Bel.drew | exact Bel.refl _ | refine Bel.set ?_ (by first | (simp; done) | (simp [go_sem]; done) | omega) _))
    · simp only [shareI, hm, he, Bool.not_true, Bool.not_false, Bool.true_or, Bool.or_true, Bool.false_or, Bool.or_false, Bool.true_and, Bool.and_true, Bool.false_and, Bool.and_false, if_true, if_false, Bool.false_eq_true] at H
      obtain ⟨e1, e2, p1, p2⟩ := ephB_iff.1 he
      obtain ⟨m1, m2, m3, m4, m5⟩ := modelB_iff.1 hm
      have q1 : 0 ≤ minI (2 * b) p ∧ minI (2 * b) p ≤ p := by unfold minI; split <;> omega
      obtain ⟨q1, q2⟩ := q1
      have w0 : IntKind.i64.wrap (2 * b) = 2 * b := IntWalk.i64_in _ (by omega)
      go_enter Try.func25, Try.ntmps25
      go_wp2_with (first | (go_at_call 47; refine (l14Ok_c _ _ _ _).mono ?_; rintro ee ww ⟨rfl, _, rfl⟩) | (go_at_call 54; refine (l09Ok_c _ _ _).mono ?_; rintro ee ww ⟨rfl, _, rfl⟩))
      go_region_held3 (fun x => x.cell? ⟨w.heap.size, 0, none⟩ = some (.int .i64 a) ∧ x.cell? ⟨w.heap.size, 1, none⟩ = some (.int .i64 b) ∧ x.cell? ⟨w.heap.size, 2, none⟩ = some (.int .i64 c) ∧ x.cell? ⟨w.heap.size + 1, 0, none⟩ = some (.int .i64 e) ∧ x.cell? ⟨w.heap.size + 1, 1, none⟩ = some (.int .i64 p)) (simp [go_sem, *]) (first | (go_at_call 57; refine (l00Min_c _ _ _).mono ?_; rintro ee ww ⟨rfl, rfl⟩) | (go_at_call 56; refine (l02Make_c _ _ (by omega) (by omega) (by omega) (by omega) _).mono ?_; rintro ee ww ⟨rfl, _, rfl⟩))
      all_goals go_wp2
      refine bodyPost_ret (v := .tuple #[.agg #[.int .i64 (fracN (minI (2 * b) p) p), .int .i64 (fracD (minI (2 * b) p) p)], .int .i64 0]) (by simp (maxDischargeDepth := 8) [results, Try.results25, go_sem]) rfl (Ret.mk ?_ (?_ : Bel _ _))
      · exact H.out
      · (repeat (first | with_reducible exact Bel.refl _ | with_reducible assumption | apply Bel.ext | apply Bel.alloc | apply Bel.drew | exact Bel.refl _ | refine Bel.set ?_ (by first | (simp; done) | (simp [go_sem]; done) | omega) _))
end Go.Proofs.Ytjdcdcfhnpephaa
