/- The line with the least squares and the ephemeris next to it: what both sides return. -/
import Derived.Test.YtlnpfggcmjljbaaFit3
namespace Go.Proofs.Ytlnpfggcmjljbaa
open Go.RowKit

set_option maxHeartbeats 2000000 in
theorem sFitMinima_c (u : Value) (xs : List (Int × Int)) (w : World) (hu : Rd cel2 w u xs) :
    Calls Try.prog 42 #[u] w (Ret (fitV (fitI xs)) w) := by
  refine hide_ret fun v H => ?_
  have S := fun w hu => l13Fit_c u xs w hu
  unfold fitV at S H
  generalize fitI xs = s at *
  obtain ⟨a, b, c, d, e⟩ := s
  dsimp only at S H
  have S1 := Lib.hid S
  clear S
  go_enter Try.func42, Try.ntmps42
  go_wp2_with (first | (go_at_call 69; refine Calls.mono (S1.out _ (hu.bel ?_)) ?_; (focus (repeat (first | exact Bel.refl _ | apply Bel.ext | apply Bel.alloc | apply Bel.drew))); rintro ee ww ⟨rfl, _, rfl⟩))
  refine bodyPost_ret (v := .tuple #[.agg #[.int .i64 a, .int .i64 b], .agg #[.int .i64 c, .int .i64 d], .int .i64 e]) (by simp (maxDischargeDepth := 8) [results, Try.results42, go_sem]) rfl (Ret.mk ?_ (?_ : Bel _ _))
  · exact H.out
  · (repeat (first | exact Bel.refl _ | apply Bel.ext | apply Bel.alloc | apply Bel.drew | refine Bel.set ?_ (by first | (simp; done) | (simp [go_sem]; done) | omega) _))
theorem quo_bd {a b : Int} (h1 : -9000000000000000000 ≤ a) (h2 : a ≤ 9000000000000000000) (h3 : 0 < b) : -9000000000000000000 ≤ a / b ∧ a / b ≤ 9000000000000000000 := by
  refine ⟨?_, ?_⟩
  · rw [Int.le_ediv_iff_mul_le h3]; omega
  · exact Int.ediv_le_of_le_mul h3 (by omega)
set_option maxHeartbeats 400000 in
theorem l13Round_c (a b : Int) (h1 : -9000000000000000000 ≤ a) (h2 : a ≤ 9000000000000000000) (h3 : 0 < b) (h4 : b ≤ 200000000000000000) (w : World) :
    Calls Try.prog 75 #[.agg #[.int .i64 a, .int .i64 b]] w (Ret (.int .i64 (roundI a b)) w) := by
  refine hide_ret fun v H => ?_
  have r0 := Int.emod_nonneg a (show b ≠ 0 by omega)
  have r1 := Int.emod_lt_of_pos a h3
  have e : a % b = a - a / b * b := by have := Int.emod_add_mul_ediv a b; rw [Int.mul_comm]; omega
  have b1 : a - b < a / b * b := by omega
  have b2 : a / b * b ≤ a := by omega
  obtain ⟨b3, b4⟩ := quo_bd h1 h2 h3
  rw [roundI_eq a b h3] at H
  clear e r0 r1
  go_enter Try.func75, Try.ntmps75
  go_wp2_with (first | (go_at_call 83; refine (l02Floor_c _ _ (by omega) (by omega) (by omega) _).mono ?_; rintro ee ww ⟨rfl, rfl⟩))
  all_goals go_ret
  all_goals refine Ret.mk ?_ (?_ : Bel _ _)
  all_goals first | ((repeat (first | exact Bel.refl _ | apply Bel.ext | apply Bel.alloc | apply Bel.drew | refine Bel.set ?_ (by first | (simp; done) | (simp [go_sem]; done) | omega) _)); done) | (rw [← H.out, if_pos (by omega)]; rfl) | (rw [← H.out, if_neg (by omega)]; rfl)
set_option maxHeartbeats 1000000 in
theorem eqEphemeris_c (a b c d : Int) (w : World) :
    Calls Try.prog 49 #[.agg #[.int .i64 a, .int .i64 b], .agg #[.int .i64 c, .int .i64 d]] w (Ret (.bool (a == c && b == d)) w) := by
  refine hide_ret fun v H => ?_
  by_cases h1 : a = c
  · by_cases h2 : b = d
    · subst h1 h2
      go_enter Try.func49, Try.ntmps49
      go_wp2
      go_ret
      refine Ret.mk ?_ (?_ : Bel _ _)
      · rw [← H.out]; simp
      · (repeat (first | exact Bel.refl _ | apply Bel.ext | apply Bel.alloc | apply Bel.drew | refine Bel.set ?_ (by first | (simp; done) | (simp [go_sem]; done) | omega) _))
    · subst h1
      go_enter Try.func49, Try.ntmps49
      go_wp2
      all_goals go_ret
      all_goals refine Ret.mk ?_ (?_ : Bel _ _)
      all_goals first | (repeat (first | exact Bel.refl _ | apply Bel.ext | apply Bel.alloc | apply Bel.drew | refine Bel.set ?_ (by first | (simp; done) | (simp [go_sem]; done) | omega) _)); done | (rw [← H.out]; simp_all)
  · go_enter Try.func49, Try.ntmps49
    go_wp2
    all_goals go_ret
    all_goals refine Ret.mk ?_ (?_ : Bel _ _)
    all_goals first | (repeat (first | exact Bel.refl _ | apply Bel.ext | apply Bel.alloc | apply Bel.drew | refine Bel.set ?_ (by first | (simp; done) | (simp [go_sem]; done) | omega) _)); done | (rw [← H.out]; simp_all)
def rfitI (xs : List (Int × Int)) : Int × Int × Int :=
  if (fitI xs).2.2.2.2 ≠ 0 then (0, 0, (fitI xs).2.2.2.2)
  else if !ephB (roundI (fitI xs).1 (fitI xs).2.1) (roundI (fitI xs).2.2.1 (fitI xs).2.2.2.1) then (0, 0, 6)
  else (roundI (fitI xs).1 (fitI xs).2.1, roundI (fitI xs).2.2.1 (fitI xs).2.2.2.1, 0)
theorem fracN_in (a b : Int) (hb : b ≠ 0) (h1 : -9000000000000000000 ≤ a) (h2 : a ≤ 9000000000000000000) : -9000000000000000000 ≤ fracN a b ∧ fracN a b ≤ 9000000000000000000 := by
  have hg := gcdI_pos a b hb
  unfold fracN
  generalize gcdI a b = g at *
  rcases Int.le_total 0 a with h | h
  · rw [Int.tdiv_eq_ediv_of_nonneg h]
    have := Int.ediv_nonneg h (show 0 ≤ g by omega)
    have := Int.ediv_le_self g h
    omega
  · rw [show a = -(-a) from by omega, Int.neg_tdiv, Int.tdiv_eq_ediv_of_nonneg (by omega)]
    have := Int.ediv_nonneg (show 0 ≤ -a by omega) (show 0 ≤ g by omega)
    have := Int.ediv_le_self g (show 0 ≤ -a by omega)
    omega
theorem fit_fine (xs : List (Int × Int)) (h : (fitI xs).2.2.2.2 = 0) :
    -9000000000000000000 ≤ (fitI xs).1 ∧ (fitI xs).1 ≤ 9000000000000000000 ∧ 0 < (fitI xs).2.1 ∧ (fitI xs).2.1 ≤ 200000000000000000 ∧
    -9000000000000000000 ≤ (fitI xs).2.2.1 ∧ (fitI xs).2.2.1 ≤ 9000000000000000000 ∧ 0 < (fitI xs).2.2.2.1 ∧ (fitI xs).2.2.2.1 ≤ 200000000000000000 := by
  unfold fitI at *
  split at h
  · simp at h
  split at h
  · simp at h
  split at h
  · simp at h
  rename_i h1 h2 h3
  rw [if_neg h1, if_neg h2, if_neg h3]
  simp only [Bool.not_eq_true, Bool.not_eq_false'] at h1
  have hlen := minimaB_len h1
  obtain ⟨b1, b2, b3, b4, b5, b6, b7, b8⟩ := fit_bd h1 (by omega) (by omega)
  obtain ⟨z1, z2, z3, z4, z5, z6⟩ := fit_last (sumF (·.1) xs) (sumF (·.2) xs) (fitN xs) (fitD xs) (fitN xs) (fitD xs) xs.length b1 b2 b3 b4 (by omega) (by omega) b5 (Int.le_refl _) b6 b7 (Int.le_refl _) b8
  have n1 := fracN_in (fitA xs) (fitB xs) (by unfold fitB; omega) (by unfold fitA; omega) (by unfold fitA; omega)
  have n2 := fracN_le (fitN xs) (fitD xs) b5
  have d1 := fracD_le (fitA xs) (fitB xs) (by unfold fitB; omega)
  have d2 := fracD_le (fitN xs) (fitD xs) b7
  unfold fitB at d1 n1
  unfold fitB
  dsimp only
  omega

set_option maxHeartbeats 4000000 in
theorem RoundedFit_c (u : Value) (xs : List (Int × Int)) (w : World) (hu : Rd cel2 w u xs) :
    Calls Try.prog 48 #[u] w (Ret (.tuple #[.agg #[.int .i64 (rfitI xs).1, .int .i64 (rfitI xs).2.1], .int .i64 (rfitI xs).2.2]) w) := by
  refine hide_ret fun v H => ?_
  have S := fun w hu => FitMinima_c u xs w hu
  have hf := fit_fine xs
  unfold rfitI at H
  unfold fitV at S
  generalize fitI xs = s at *
  obtain ⟨a, b, c, d, e⟩ := s
  dsimp only at S H hf
  have S1 := Lib.hid S
  clear S
  by_cases he : e = 0
  · subst he
    obtain ⟨p1, p2, p3, p4, p5, p6, p7, p8⟩ := hf rfl
    simp only [ne_eq, not_true_eq_false, if_false] at H
    clear hf
    have HE := Lib.hid (fun w => ValidEphemeris_c (roundI a b) (roundI c d) w)
    rcases hq : ephB (roundI a b) (roundI c d) with _ | _ <;> simp only [hq, Bool.not_true, Bool.not_false, if_true, if_false, Bool.false_eq_true] at H HE
    · clear hq
      go_enter Try.func48, Try.ntmps48
      go_wp2_with (first | (go_at_call 43; refine Calls.mono (S1.out _ (hu.bel ?_)) ?_; (focus (repeat (first | exact Bel.refl _ | apply Bel.ext | apply Bel.alloc | apply Bel.drew | refine Bel.set ?_ (by first | (simp; done) | (simp [go_sem]; done) | omega) _))); rintro ee ww ⟨rfl, g0, rfl⟩))
      have hX0 : (ext (w.alloc (Obj.cells #[.int .i64 0, .int .i64 0] 56)) g0).cell? ⟨w.heap.size, 0, none⟩ = some (.int .i64 0) := by simp [go_sem]
      have hX1 : (ext (w.alloc (Obj.cells #[.int .i64 0, .int .i64 0] 56)) g0).cell? ⟨w.heap.size, 1, none⟩ = some (.int .i64 0) := by simp [go_sem]
      have hX2 : (ext (w.alloc (Obj.cells #[.int .i64 0, .int .i64 0] 56)) g0).frozen? ⟨w.heap.size, 0, none⟩ = false := by simp [go_sem]
      have hX3 : (ext (w.alloc (Obj.cells #[.int .i64 0, .int .i64 0] 56)) g0).frozen? ⟨w.heap.size, 1, none⟩ = false := by simp [go_sem]
      have hXl : w.heap.size < (ext (w.alloc (Obj.cells #[.int .i64 0, .int .i64 0] 56)) g0).heap.size := by have := ext_size (w.alloc (Obj.cells #[.int .i64 0, .int .i64 0] 56)) g0; simp at this; omega
      have hwX : Bel w (ext (w.alloc (Obj.cells #[.int .i64 0, .int .i64 0] 56)) g0) := by (repeat (first | exact Bel.refl _ | apply Bel.ext | apply Bel.alloc | apply Bel.drew | refine Bel.set ?_ (by first | (simp; done) | (simp [go_sem]; done) | omega) _))
      generalize (ext (w.alloc (Obj.cells #[.int .i64 0, .int .i64 0] 56)) g0) = X at *
      go_region_held3 (fun x => x.cell? ⟨X.heap.size, 0, none⟩ = some (.int .i64 a) ∧ x.cell? ⟨X.heap.size, 1, none⟩ = some (.int .i64 b) ∧ x.cell? ⟨X.heap.size + 1, 0, none⟩ = some (.int .i64 c) ∧ x.cell? ⟨X.heap.size + 1, 1, none⟩ = some (.int .i64 d)) (simp [go_sem, *]) (first | (go_at_call 74; refine (nearest_c _ _ (by omega) (by omega) (by omega) (by omega) _).mono ?_; rintro ee ww ⟨rfl, rfl⟩))
      all_goals go_wp2_with (first | (go_at_call 64; refine Calls.mono (HE.out _) ?_; rintro ee ww ⟨rfl, _, rfl⟩))
      all_goals refine bodyPost_ret (v := .tuple #[.agg #[.int .i64 0, .int .i64 0], .int .i64 6]) (by simp (maxDischargeDepth := 8) [results, Try.results48, go_sem, hX0, hX1, hXl]) rfl (Ret.mk ?_ (?_ : Bel _ _))
      all_goals first | exact H.out | (repeat (first | exact hwX | exact Bel.refl _ | apply Bel.ext | apply Bel.alloc | apply Bel.drew | refine Bel.set ?_ (by first | (simp; done) | (simp [go_sem]; done) | omega | (dsimp only; omega) | (dsimp only; refine bel_size ?_; (repeat (first | exact hwX | exact Bel.refl _ | apply Bel.ext | apply Bel.alloc | apply Bel.drew)))) _))
    · clear hq
      go_enter Try.func48, Try.ntmps48
      go_wp2_with (first | (go_at_call 43; refine Calls.mono (S1.out _ (hu.bel ?_)) ?_; (focus (repeat (first | exact Bel.refl _ | apply Bel.ext | apply Bel.alloc | apply Bel.drew | refine Bel.set ?_ (by first | (simp; done) | (simp [go_sem]; done) | omega) _))); rintro ee ww ⟨rfl, g0, rfl⟩))
      have hX0 : (ext (w.alloc (Obj.cells #[.int .i64 0, .int .i64 0] 56)) g0).cell? ⟨w.heap.size, 0, none⟩ = some (.int .i64 0) := by simp [go_sem]
      have hX1 : (ext (w.alloc (Obj.cells #[.int .i64 0, .int .i64 0] 56)) g0).cell? ⟨w.heap.size, 1, none⟩ = some (.int .i64 0) := by simp [go_sem]
      have hX2 : (ext (w.alloc (Obj.cells #[.int .i64 0, .int .i64 0] 56)) g0).frozen? ⟨w.heap.size, 0, none⟩ = false := by simp [go_sem]
      have hX3 : (ext (w.alloc (Obj.cells #[.int .i64 0, .int .i64 0] 56)) g0).frozen? ⟨w.heap.size, 1, none⟩ = false := by simp [go_sem]
      have hXl : w.heap.size < (ext (w.alloc (Obj.cells #[.int .i64 0, .int .i64 0] 56)) g0).heap.size := by have := ext_size (w.alloc (Obj.cells #[.int .i64 0, .int .i64 0] 56)) g0; simp at this; omega
      have hwX : Bel w (ext (w.alloc (Obj.cells #[.int .i64 0, .int .i64 0] 56)) g0) := by (repeat (first | exact Bel.refl _ | apply Bel.ext | apply Bel.alloc | apply Bel.drew | refine Bel.set ?_ (by first | (simp; done) | (simp [go_sem]; done) | omega) _))
      generalize (ext (w.alloc (Obj.cells #[.int .i64 0, .int .i64 0] 56)) g0) = X at *
      go_region_held3 (fun x => x.cell? ⟨X.heap.size, 0, none⟩ = some (.int .i64 a) ∧ x.cell? ⟨X.heap.size, 1, none⟩ = some (.int .i64 b) ∧ x.cell? ⟨X.heap.size + 1, 0, none⟩ = some (.int .i64 c) ∧ x.cell? ⟨X.heap.size + 1, 1, none⟩ = some (.int .i64 d)) (simp [go_sem, *]) (first | (go_at_call 74; refine (nearest_c _ _ (by omega) (by omega) (by omega) (by omega) _).mono ?_; rintro ee ww ⟨rfl, rfl⟩))
      all_goals go_wp2_with (first | (go_at_call 64; refine Calls.mono (HE.out _) ?_; rintro ee ww ⟨rfl, _, rfl⟩))
      all_goals refine bodyPost_ret (v := .tuple #[.agg #[.int .i64 (roundI a b), .int .i64 (roundI c d)], .int .i64 0]) (by simp (maxDischargeDepth := 8) [results, Try.results48, go_sem, hX0, hX1, hXl]) rfl (Ret.mk ?_ (?_ : Bel _ _))
      all_goals first | exact H.out | (repeat (first | exact hwX | exact Bel.refl _ | apply Bel.ext | apply Bel.alloc | apply Bel.drew | refine Bel.set ?_ (by first | (simp; done) | (simp [go_sem]; done) | omega | (dsimp only; omega) | (dsimp only; refine bel_size ?_; (repeat (first | exact hwX | exact Bel.refl _ | apply Bel.ext | apply Bel.alloc | apply Bel.drew)))) _))
  · simp only [ne_eq, he, not_false_eq_true, if_true] at H
    have he1 : (e == 0) = false := by simp [he]
    have he2 : (e != 0) = true := by simp [he]
    clear hf
    go_enter Try.func48, Try.ntmps48
    go_wp2_with (first | (go_at_call 43; refine Calls.mono (S1.out _ (hu.bel ?_)) ?_; (focus (repeat (first | exact Bel.refl _ | apply Bel.ext | apply Bel.alloc | apply Bel.drew | refine Bel.set ?_ (by first | (simp; done) | (simp [go_sem]; done) | omega) _))); rintro ee ww ⟨rfl, g0, rfl⟩))
    refine bodyPost_ret (v := .tuple #[.agg #[.int .i64 0, .int .i64 0], .int .i64 e]) (by simp (maxDischargeDepth := 8) [results, Try.results48, go_sem]) rfl (Ret.mk ?_ (?_ : Bel _ _))
    · exact H.out
    · (repeat (first | exact Bel.refl _ | apply Bel.ext | apply Bel.alloc | apply Bel.drew | refine Bel.set ?_ (by first | (simp; done) | (simp [go_sem]; done) | omega) _))
set_option maxHeartbeats 4000000 in
theorem sRoundedFit_c (u : Value) (xs : List (Int × Int)) (w : World) (hu : Rd cel2 w u xs) :
    Calls Try.prog 47 #[u] w (Ret (.tuple #[.agg #[.int .i64 (rfitI xs).1, .int .i64 (rfitI xs).2.1], .int .i64 (rfitI xs).2.2]) w) := by
  refine hide_ret fun v H => ?_
  have S := fun w hu => l13Fit_c u xs w hu
  have hf := fit_fine xs
  unfold rfitI at H
  unfold fitV at S
  generalize fitI xs = s at *
  obtain ⟨a, b, c, d, e⟩ := s
  dsimp only at S H hf
  have S1 := Lib.hid S
  clear S
  by_cases he : e = 0
  · subst he
    obtain ⟨p1, p2, p3, p4, p5, p6, p7, p8⟩ := hf rfl
    simp only [ne_eq, not_true_eq_false, if_false] at H
    clear hf
    have HE := Lib.hid (fun w => l09Ok_c (roundI a b) (roundI c d) w)
    rcases hq : ephB (roundI a b) (roundI c d) with _ | _ <;> simp only [hq, Bool.not_true, Bool.not_false, if_true, if_false, Bool.false_eq_true] at H HE
    · clear hq
      go_enter Try.func47, Try.ntmps47
      go_wp2_with (first | (go_at_call 69; refine Calls.mono (S1.out _ (hu.bel ?_)) ?_; (focus (repeat (first | exact Bel.refl _ | apply Bel.ext | apply Bel.alloc | apply Bel.drew | refine Bel.set ?_ (by first | (simp; done) | (simp [go_sem]; done) | omega) _))); rintro ee ww ⟨rfl, g0, rfl⟩))
      have hX0 : (ext (w.alloc (Obj.cells #[.int .i64 0, .int .i64 0] 56)) g0).cell? ⟨w.heap.size, 0, none⟩ = some (.int .i64 0) := by simp [go_sem]
      have hX1 : (ext (w.alloc (Obj.cells #[.int .i64 0, .int .i64 0] 56)) g0).cell? ⟨w.heap.size, 1, none⟩ = some (.int .i64 0) := by simp [go_sem]
      have hX2 : (ext (w.alloc (Obj.cells #[.int .i64 0, .int .i64 0] 56)) g0).frozen? ⟨w.heap.size, 0, none⟩ = false := by simp [go_sem]
      have hX3 : (ext (w.alloc (Obj.cells #[.int .i64 0, .int .i64 0] 56)) g0).frozen? ⟨w.heap.size, 1, none⟩ = false := by simp [go_sem]
      have hXl : w.heap.size < (ext (w.alloc (Obj.cells #[.int .i64 0, .int .i64 0] 56)) g0).heap.size := by have := ext_size (w.alloc (Obj.cells #[.int .i64 0, .int .i64 0] 56)) g0; simp at this; omega
      have hwX : Bel w (ext (w.alloc (Obj.cells #[.int .i64 0, .int .i64 0] 56)) g0) := by (repeat (first | exact Bel.refl _ | apply Bel.ext | apply Bel.alloc | apply Bel.drew | refine Bel.set ?_ (by first | (simp; done) | (simp [go_sem]; done) | omega) _))
      generalize (ext (w.alloc (Obj.cells #[.int .i64 0, .int .i64 0] 56)) g0) = X at *
      go_region_held3 (fun x => x.cell? ⟨X.heap.size, 0, none⟩ = some (.int .i64 a) ∧ x.cell? ⟨X.heap.size, 1, none⟩ = some (.int .i64 b) ∧ x.cell? ⟨X.heap.size + 1, 0, none⟩ = some (.int .i64 c) ∧ x.cell? ⟨X.heap.size + 1, 1, none⟩ = some (.int .i64 d)) (simp [go_sem, *]) (first | (go_at_call 75; refine (l13Round_c _ _ (by omega) (by omega) (by omega) (by omega) _).mono ?_; rintro ee ww ⟨rfl, _, rfl⟩))
      all_goals go_wp2_with (first | (go_at_call 62; refine Calls.mono (HE.out _) ?_; rintro ee ww ⟨rfl, _, rfl⟩))
      all_goals refine bodyPost_ret (v := .tuple #[.agg #[.int .i64 0, .int .i64 0], .int .i64 6]) (by simp (maxDischargeDepth := 8) [results, Try.results47, go_sem, hX0, hX1, hXl]) rfl (Ret.mk ?_ (?_ : Bel _ _))
      all_goals first | exact H.out | (repeat (first | exact hwX | exact Bel.refl _ | apply Bel.ext | apply Bel.alloc | apply Bel.drew | refine Bel.set ?_ (by first | (simp; done) | (simp [go_sem]; done) | omega | (dsimp only; omega) | (dsimp only; refine bel_size ?_; (repeat (first | exact hwX | exact Bel.refl _ | apply Bel.ext | apply Bel.alloc | apply Bel.drew)))) _))
    · clear hq
      go_enter Try.func47, Try.ntmps47
      go_wp2_with (first | (go_at_call 69; refine Calls.mono (S1.out _ (hu.bel ?_)) ?_; (focus (repeat (first | exact Bel.refl _ | apply Bel.ext | apply Bel.alloc | apply Bel.drew | refine Bel.set ?_ (by first | (simp; done) | (simp [go_sem]; done) | omega) _))); rintro ee ww ⟨rfl, g0, rfl⟩))
      have hX0 : (ext (w.alloc (Obj.cells #[.int .i64 0, .int .i64 0] 56)) g0).cell? ⟨w.heap.size, 0, none⟩ = some (.int .i64 0) := by simp [go_sem]
      have hX1 : (ext (w.alloc (Obj.cells #[.int .i64 0, .int .i64 0] 56)) g0).cell? ⟨w.heap.size, 1, none⟩ = some (.int .i64 0) := by simp [go_sem]
      have hX2 : (ext (w.alloc (Obj.cells #[.int .i64 0, .int .i64 0] 56)) g0).frozen? ⟨w.heap.size, 0, none⟩ = false := by simp [go_sem]
      have hX3 : (ext (w.alloc (Obj.cells #[.int .i64 0, .int .i64 0] 56)) g0).frozen? ⟨w.heap.size, 1, none⟩ = false := by simp [go_sem]
      have hXl : w.heap.size < (ext (w.alloc (Obj.cells #[.int .i64 0, .int .i64 0] 56)) g0).heap.size := by have := ext_size (w.alloc (Obj.cells #[.int .i64 0, .int .i64 0] 56)) g0; simp at this; omega
      have hwX : Bel w (ext (w.alloc (Obj.cells #[.int .i64 0, .int .i64 0] 56)) g0) := by (repeat (first | exact Bel.refl _ | apply Bel.ext | apply Bel.alloc | apply Bel.drew | refine Bel.set ?_ (by first | (simp; done) | (simp [go_sem]; done) | omega) _))
      generalize (ext (w.alloc (Obj.cells #[.int .i64 0, .int .i64 0] 56)) g0) = X at *
      go_region_held3 (fun x => x.cell? ⟨X.heap.size, 0, none⟩ = some (.int .i64 a) ∧ x.cell? ⟨X.heap.size, 1, none⟩ = some (.int .i64 b) ∧ x.cell? ⟨X.heap.size + 1, 0, none⟩ = some (.int .i64 c) ∧ x.cell? ⟨X.heap.size + 1, 1, none⟩ = some (.int .i64 d)) (simp [go_sem, *]) (first | (go_at_call 75; refine (l13Round_c _ _ (by omega) (by omega) (by omega) (by omega) _).mono ?_; rintro ee ww ⟨rfl, _, rfl⟩))
      all_goals go_wp2_with (first | (go_at_call 62; refine Calls.mono (HE.out _) ?_; rintro ee ww ⟨rfl, _, rfl⟩))
      all_goals refine bodyPost_ret (v := .tuple #[.agg #[.int .i64 (roundI a b), .int .i64 (roundI c d)], .int .i64 0]) (by simp (maxDischargeDepth := 8) [results, Try.results47, go_sem, hX0, hX1, hXl]) rfl (Ret.mk ?_ (?_ : Bel _ _))
      all_goals first | exact H.out | (repeat (first | exact hwX | exact Bel.refl _ | apply Bel.ext | apply Bel.alloc | apply Bel.drew | refine Bel.set ?_ (by first | (simp; done) | (simp [go_sem]; done) | omega | (dsimp only; omega) | (dsimp only; refine bel_size ?_; (repeat (first | exact hwX | exact Bel.refl _ | apply Bel.ext | apply Bel.alloc | apply Bel.drew)))) _))
  · simp only [ne_eq, he, not_false_eq_true, if_true] at H
    have he1 : (e == 0) = false := by simp [he]
    have he2 : (e != 0) = true := by simp [he]
    clear hf
    go_enter Try.func47, Try.ntmps47
    go_wp2_with (first | (go_at_call 69; refine Calls.mono (S1.out _ (hu.bel ?_)) ?_; (focus (repeat (first | exact Bel.refl _ | apply Bel.ext | apply Bel.alloc | apply Bel.drew | refine Bel.set ?_ (by first | (simp; done) | (simp [go_sem]; done) | omega) _))); rintro ee ww ⟨rfl, g0, rfl⟩))
    refine bodyPost_ret (v := .tuple #[.agg #[.int .i64 0, .int .i64 0], .int .i64 e]) (by simp (maxDischargeDepth := 8) [results, Try.results47, go_sem]) rfl (Ret.mk ?_ (?_ : Bel _ _))
    · exact H.out
    · (repeat (first | exact Bel.refl _ | apply Bel.ext | apply Bel.alloc | apply Bel.drew | refine Bel.set ?_ (by first | (simp; done) | (simp [go_sem]; done) | omega) _))
end Go.Proofs.Ytlnpfggcmjljbaa
