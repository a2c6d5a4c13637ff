/- The codes of predictions, the next extremum, quotients rounded up: what the small functions return. -/
import Derived.Test.YtpfemaonipcbgaaEclPlain
namespace Go.Proofs.Ytpfemaonipcbgaa
open Go.RowKit

set_option maxHeartbeats 400000 in
theorem ceil_c (a b : Int) (h1 : -9000000000000000 ≤ a) (h2 : a ≤ 9000000000000000) (h3 : 0 < b) (w : World) :
    Calls Try.prog 36 #[.int .i64 a, .int .i64 b] w (Same (.int .i64 (ceilI a b)) w) := by
  refine hide_same fun v H => ?_
  obtain ⟨q1, q2⟩ := floor_bd (a := -a) h3 (-9000000000000000) 9000000000000000 (by omega) (by omega) (by omega) (by omega)
  unfold ceilI at H
  go_enter Try.func36, Try.ntmps36
  go_wp2_with (first | (go_at_call 37; refine (floorDiv_c _ _ (by omega) (by omega) (by omega) _).mono ?_; rintro ee ww ⟨rfl, rfl⟩))
  go_ret
  refine Same.mk ?_
  exact H.out
set_option maxHeartbeats 400000 in
theorem countJ_c (a : Option Addr) (n c : Nat) (h : (n : Int) ≤ 9223372036854775807) (w : World) : Calls Try.prog 38 #[.slice a n c] w (Same (.int .i64 n) w) := by
  refine hide_same fun v H => ?_
  go_enter Try.func38, Try.ntmps38
  go_wp2
  go_ret
  refine Same.mk ?_; rw [← H.out]; rfl
set_option maxHeartbeats 1000000 in
theorem fits_c (e p : Int) (u : Value) (xs : List (Int × Int)) (r : Bool) (w : World) (hu : Rd cel2 w u xs) :
    Calls Try.prog 35 #[.agg #[.int .i64 e, .int .i64 p], u, .bool r] w (Ret (.int .i64 (fitsI e p xs r)) w) := by
  refine hide_ret fun v H => ?_
  have V1 := Lib.hid (fun w => ValidEphemeris_c e p w)
  have V2 := Lib.hid (fun w hu => ValidWindows_c u xs w hu)
  unfold fitsI at H
  rcases h1 : ephB e p with _ | _ <;> rcases h2 : windowsB xs with _ | _ <;> cases r <;> simp only [h1, h2, Bool.not_true, Bool.not_false, Bool.true_or, Bool.or_true, Bool.false_or, Bool.or_false, Bool.true_and, Bool.and_true, Bool.false_and, Bool.and_false, if_true, if_false, Bool.false_eq_true] at H V1 V2
  all_goals
    clear h1 h2
    go_enter Try.func35, Try.ntmps35
    go_wp2_with (first | (go_at_call 60; refine Calls.mono (V1.out _) ?_; rintro ee ww ⟨rfl, _, rfl⟩) | (go_at_call 61; refine Calls.mono (V2.out _ (hu.bel ?_)) ?_; (focus (repeat (first | with_reducible exact Bel.refl _ | with_reducible assumption | apply Bel.ext | apply Bel.alloc | apply Bel.drew | exact Bel.refl _))); rintro ee ww ⟨rfl, _, rfl⟩))
    go_ret
    refine Ret.mk ?_ (?_ : Bel _ _)
    · exact H.out
    · (repeat (first | with_reducible exact Bel.refl _ | with_reducible assumption | apply Bel.ext | apply Bel.alloc | apply Bel.drew | exact Bel.refl _ | refine Bel.set ?_ (by first | (simp; done) | (simp [go_sem]; done) | omega) _))
set_option maxHeartbeats 1000000 in
theorem l16Code_c (e p : Int) (u : Value) (xs : List (Int × Int)) (w : World) (hu : Rd cel2 w u xs) :
    Calls Try.prog 29 #[.agg #[.int .i64 e, .int .i64 p], u] w (Ret (.int .i64 (fitsI e p xs true)) w) := by
  refine hide_ret fun v H => ?_
  have V1 := Lib.hid (fun w => l09Ok_c e p w)
  have V2 := Lib.hid (fun w hu => l15Ok_c u xs w hu)
  unfold fitsI at H
  rcases h1 : ephB e p with _ | _ <;> rcases h2 : windowsB xs with _ | _ <;> simp only [h1, h2, Bool.not_true, Bool.not_false, Bool.true_or, Bool.or_true, Bool.false_or, Bool.or_false, Bool.true_and, Bool.and_true, Bool.false_and, Bool.and_false, if_true, if_false, Bool.false_eq_true] at H V1 V2
  all_goals
    clear h1 h2
    go_enter Try.func29, Try.ntmps29
    go_wp2_with (first | (go_at_call 55; refine Calls.mono (V1.out _) ?_; rintro ee ww ⟨rfl, _, rfl⟩) | (go_at_call 56; refine Calls.mono (V2.out _ (hu.bel ?_)) ?_; (focus (repeat (first | with_reducible exact Bel.refl _ | with_reducible assumption | apply Bel.ext | apply Bel.alloc | apply Bel.drew | exact Bel.refl _))); rintro ee ww ⟨rfl, _, rfl⟩))
    go_ret
    refine Ret.mk ?_ (?_ : Bel _ _)
    · exact H.out
    · (repeat (first | with_reducible exact Bel.refl _ | with_reducible assumption | apply Bel.ext | apply Bel.alloc | apply Bel.drew | exact Bel.refl _ | refine Bel.set ?_ (by first | (simp; done) | (simp [go_sem]; done) | omega) _))
set_option maxHeartbeats 400000 in
theorem l09Next_c (e p t : Int) (h : ephB e p = true) (h1 : -100000000000 ≤ t) (h2 : t ≤ 100000000000) (w : World) : Calls Try.prog 32 #[.agg #[.int .i64 e, .int .i64 p], .int .i64 t] w (Ret (.int .i64 (nextI e p t)) w) := by
  refine hide_ret fun v H => ?_
  obtain ⟨e1, e2, p1, p2⟩ := ephB_iff.1 h
  have r0 := Int.emod_nonneg (t - e) (show p ≠ 0 by omega)
  have r1 := Int.emod_lt_of_pos (t - e) (show 0 < p by omega)
  have HP := Lib.hid (l09Phase_c e p t h (by omega) (by omega))
  unfold nextI at H
  unfold phaseI at HP
  generalize (t - e) % p = q at *
  by_cases hq : q = 0
  · rw [if_pos hq] at H
    subst hq
    go_enter Try.func32, Try.ntmps32
    go_wp2_with (first | (go_at_call 57; refine Calls.mono (HP.out _) ?_; rintro ee ww ⟨rfl, _, rfl⟩))
    go_ret
    refine Ret.mk ?_ (?_ : Bel _ _)
    · exact H.out
    · (repeat (first | with_reducible exact Bel.refl _ | with_reducible assumption | apply Bel.ext | apply Bel.alloc | apply Bel.drew | exact Bel.refl _ | refine Bel.set ?_ (by first | (simp; done) | (simp [go_sem]; done) | omega) _))
  · rw [if_neg hq] at H
    have hq' : (q == 0) = false := by simp [hq]
    clear hq
    go_enter Try.func32, Try.ntmps32
    go_wp2_with (first | (go_at_call 57; refine Calls.mono (HP.out _) ?_; rintro ee ww ⟨rfl, _, rfl⟩))
    go_ret
    refine Ret.mk ?_ (?_ : Bel _ _)
    · exact H.out
    · (repeat (first | with_reducible exact Bel.refl _ | with_reducible assumption | apply Bel.ext | apply Bel.alloc | apply Bel.drew | exact Bel.refl _ | refine Bel.set ?_ (by first | (simp; done) | (simp [go_sem]; done) | omega) _))
set_option maxHeartbeats 400000 in
theorem l16Count_c (e p x y : Int) (h : ephB e p = true) (h1 : -100000000000 ≤ x) (h2 : x ≤ 100000000000) (h3 : -100000000000 ≤ y) (h4 : y ≤ 100000000000) (w : World) : Calls Try.prog 31 #[.agg #[.int .i64 e, .int .i64 p], .agg #[.int .i64 x, .int .i64 y]] w (Ret (.int .i64 (cntI e p x y)) w) := by
  refine hide_ret fun v H => ?_
  have HN := Lib.hid (l09Next_c e p x h h1 h2)
  obtain ⟨e1, e2, p1, p2⟩ := ephB_iff.1 h
  have r0 := Int.emod_nonneg (x - e) (show p ≠ 0 by omega)
  have r1 := Int.emod_lt_of_pos (x - e) (show 0 < p by omega)
  have b1 : x ≤ nextI e p x ∧ nextI e p x ≤ x + p := by unfold nextI; split <;> omega
  clear r0 r1
  unfold cntI at H
  generalize nextI e p x = q at *
  by_cases hq : y < q
  · rw [if_pos hq] at H
    go_enter Try.func31, Try.ntmps31
    go_wp2_with (first | (go_at_call 32; refine Calls.mono (HN.out _) ?_; rintro ee ww ⟨rfl, _, rfl⟩))
    go_ret
    refine Ret.mk ?_ (?_ : Bel _ _)
    · exact H.out
    · (repeat (first | with_reducible exact Bel.refl _ | with_reducible assumption | apply Bel.ext | apply Bel.alloc | apply Bel.drew | exact Bel.refl _ | refine Bel.set ?_ (by first | (simp; done) | (simp [go_sem]; done) | omega) _))
  · rw [if_neg hq] at H
    have d0 := floor_bd (a := y - q) (show 0 < p by omega) 0 1000000000000 (by omega) (by omega) (by omega) (by omega)
    go_enter Try.func31, Try.ntmps31
    go_wp2_with (first | (go_at_call 32; refine Calls.mono (HN.out _) ?_; rintro ee ww ⟨rfl, _, rfl⟩))
    go_ret
    refine Ret.mk ?_ (?_ : Bel _ _)
    · exact H.out
    · (repeat (first | with_reducible exact Bel.refl _ | with_reducible assumption | apply Bel.ext | apply Bel.alloc | apply Bel.drew | exact Bel.refl _ | refine Bel.set ?_ (by first | (simp; done) | (simp [go_sem]; done) | omega) _))
set_option maxHeartbeats 400000 in
theorem l16Inner_c (a b c x y : Int) (h1 : 0 ≤ b) (h2 : b ≤ 1000000) (h3 : 0 ≤ x) (h4 : x ≤ 10000000) (h5 : 0 ≤ y) (h6 : y ≤ 10000000) (w : World) :
    Calls Try.prog 30 #[.agg #[.int .i64 a, .int .i64 b, .int .i64 c], .agg #[.int .i64 x, .int .i64 y]] w (Ret (.tuple #[.agg #[.int .i64 (x + b), .int .i64 (y - b)], .bool (decide (x + b ≤ y - b))]) w) := by
  refine hide_ret fun v H => ?_
  by_cases hq : x + b ≤ y - b
  · simp only [hq, decide_true, decide_false] at H
    have hd : decide (x + b ≤ y - b) = true := decide_eq_true hq
    clear hq
    go_enter Try.func30, Try.ntmps30
    go_wp2
    go_region_held3 (fun q => q.cell? ⟨w.heap.size + 3, 0, none⟩ = some (.int .i64 (x + b)) ∧ q.cell? ⟨w.heap.size + 3, 1, none⟩ = some (.int .i64 (y - b))) (simp [go_sem, *]) (fail)
    all_goals go_wp2
    refine bodyPost_ret (v := .tuple #[.agg #[.int .i64 (x + b), .int .i64 (y - b)], .bool true]) (by simp (maxDischargeDepth := 8) [results, Try.results30, go_sem]) rfl (Ret.mk ?_ (?_ : Bel _ _))
    · exact H.out
    · (repeat (first | with_reducible exact Bel.refl _ | with_reducible assumption | apply Bel.ext | apply Bel.alloc | apply Bel.drew | exact Bel.refl _ | refine Bel.set ?_ (by first | (simp; done) | (simp [go_sem]; done) | omega) _))
  · simp only [hq, decide_true, decide_false] at H
    have hd : decide (x + b ≤ y - b) = false := decide_eq_false hq
    clear hq
    go_enter Try.func30, Try.ntmps30
    go_wp2
    go_region_held3 (fun q => q.cell? ⟨w.heap.size + 3, 0, none⟩ = some (.int .i64 (x + b)) ∧ q.cell? ⟨w.heap.size + 3, 1, none⟩ = some (.int .i64 (y - b))) (simp [go_sem, *]) (fail)
    all_goals go_wp2
    refine bodyPost_ret (v := .tuple #[.agg #[.int .i64 (x + b), .int .i64 (y - b)], .bool false]) (by simp (maxDischargeDepth := 8) [results, Try.results30, go_sem]) rfl (Ret.mk ?_ (?_ : Bel _ _))
    · exact H.out
    · (repeat (first | with_reducible exact Bel.refl _ | with_reducible assumption | apply Bel.ext | apply Bel.alloc | apply Bel.drew | exact Bel.refl _ | refine Bel.set ?_ (by first | (simp; done) | (simp [go_sem]; done) | omega) _))
end Go.Proofs.Ytpfemaonipcbgaa
