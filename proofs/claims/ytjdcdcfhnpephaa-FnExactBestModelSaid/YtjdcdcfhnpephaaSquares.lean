/- The sums of squares of a light curve's differences from a model, in the program and in the reference. -/
import Derived.Test.YtjdcdcfhnpephaaModel2
import Derived.Test.YtjdcdcfhnpephaaCurve
namespace Go.Proofs.Ytjdcdcfhnpephaa
open Go.RowKit

/-- the sum so far, over the points to come -/
def sqFrom (a b c e p m s : Int) : List (Int × Int) → Int
  | [] => s
  | (t, g) :: r => sqFrom a b c e p m (s + (g - magAtI a b c e p m t) * (g - magAtI a b c e p m t)) r
theorem pairOk_tail {f g : Int → Bool} {prev : Option (Int × Int)} {x : Int × Int} {r : List (Int × Int)} (h : pairOk f g prev (x :: r) = true) : f x.1 = true ∧ g x.2 = true ∧ pairOk f g (some x) r = true := by
  obtain ⟨t, m⟩ := x
  simp [pairOk] at h
  exact ⟨h.1.1.1, h.1.1.2, h.2⟩
theorem pairOk_get {f g : Int → Bool} : ∀ {xs : List (Int × Int)} {prev : Option (Int × Int)}, pairOk f g prev xs = true → ∀ {k : Nat} {x : Int × Int}, xs[k]? = some x → f x.1 = true ∧ g x.2 = true
  | [], _, _, _, _, h => by simp at h
  | y :: r, _, hp, 0, x, h => by simp at h; subst h; exact ⟨(pairOk_tail hp).1, (pairOk_tail hp).2.1⟩
  | y :: r, _, hp, k + 1, x, h => pairOk_get (pairOk_tail hp).2.2 (by simpa using h)
theorem sq_bd {d : Int} (h1 : -100000 ≤ d) (h2 : d ≤ 100000) : 0 ≤ d * d ∧ d * d ≤ 10000000000 := by
  have h3 : d.natAbs ≤ 100000 := by omega
  have h4 : d * d = (d.natAbs * d.natAbs : Nat) := (Int.natAbs_mul_self).symm ▸ rfl
  have h5 := Nat.mul_le_mul h3 h3
  omega

set_option maxHeartbeats 2000000 in
theorem squares_c (a b c e p m : Int) (u : Value) (xs : List (Int × Int)) (hm : modelB a b c = true) (he : ephB e p = true) (h3 : magB m = true) (hx : curveB xs = true) (w : World) (hu : Rd cel2 w u xs) :
    Calls Try.prog 69 #[.agg #[.int .i64 a, .int .i64 b, .int .i64 c], .agg #[.int .i64 e, .int .i64 p], .int .i64 m, u] w (Ret (.int .i64 (sqFrom a b c e p m 0 xs)) w) := by
  refine hide_ret fun v H => ?_
  obtain ⟨aa, n, cc, rfl, hs⟩ := hu.sl
  have hcap := hs.le; have hmax := hs.cap
  unfold maxLen at hmax
  have HL := Lib.hid hs.len
  obtain ⟨m1, m2⟩ := magB_iff.1 h3
  have hn : n ≤ 100 := by rw [HL.out]; simp [curveB] at hx; exact hx.1
  have HP : Hid (pairOk timeB magB none xs = true) := by simp [curveB] at hx; exact hx.2
  clear hx
  have hA := (modelB_iff.1 hm).2.1
  go_enter Try.func69, Try.ntmps69
  go_wp2
  go_loopw [9, 15] (fun s i wr => ∃ (k : Nat) (z : Int), k ≤ n ∧ i = .int .i64 k ∧ s = .int .i64 z ∧ 0 ≤ z ∧ z ≤ k * 10000000000 ∧ (∃ g, wr = ext ((w.alloc (Obj.cells #[.int .i64 a, .int .i64 b, .int .i64 c] 25)).alloc (Obj.cells #[.int .i64 e, .int .i64 p] 37)) g) ∧ Hid (v = .int .i64 (sqFrom a b c e p m z (xs.drop k)))) (fun _ i _ => n - (intOf i).toNat)
  case atStart => exact ⟨0, 0, Nat.zero_le _, rfl, rfl, by omega, by omega, ext_ex (Bel.refl _), Lib.hid (by rw [← H.out]; rfl)⟩
  case round =>
    obtain ⟨k, z, hk, rfl, rfl, z1, z2, ⟨g, rfl⟩, hv⟩ := hrel
    by_cases hlt : k < n
    · obtain ⟨bb, off, rfl, hb⟩ := hs.base hlt
      obtain ⟨t, y, hx, hc0, hc1⟩ := hs.at2 hlt
      obtain ⟨q1, q2⟩ := pairOk_get HP.out hx.out
      obtain ⟨t1, t2⟩ := timeB_iff.1 q1
      obtain ⟨y1, y2⟩ := magB_iff.1 q2
      clear q1 q2
      dsimp only at t1 t2 y1 y2
      have db := dropI_bd (minI (phaseI e p t) (p - phaseI e p t)) hm
      have r1 : -2000 ≤ magAtI a b c e p m t := by unfold magAtI; omega
      have r2 : magAtI a b c e p m t ≤ 25000 := by unfold magAtI; omega
      clear db
      obtain ⟨s1, s2⟩ := sq_bd (d := y - magAtI a b c e p m t) (by omega) (by omega)
      have w1 : IntKind.i64.wrap (y - magAtI a b c e p m t) = y - magAtI a b c e p m t := IntWalk.i64_in _ (by omega)
      go_wp2_with (first | (go_at_call 64; refine (magAt_c _ _ _ _ _ _ _ (by assumption) (by assumption) (by omega) (by omega) (by omega) (by omega) _).mono ?_; rintro ee ww ⟨rfl, _, rfl⟩))
      all_goals (try ((refine region_ext (by kernel_rfl) (by kernel_rfl) ?_; (repeat (go_big_quiet_step (first | (go_at_call 64; exact Calls.in_ret (magAt_c _ _ _ _ _ _ _ (by assumption) (by assumption) (by omega) (by omega) (by omega) (by omega) _))))); refine wpQuiet_nil ?_; rintro _ ⟨_, rfl⟩); go_wp2_with (first | (go_at_call 64; refine (magAt_c _ _ _ _ _ _ _ (by assumption) (by assumption) (by omega) (by omega) (by omega) (by omega) _).mono ?_; rintro ee ww ⟨rfl, _, rfl⟩))))
      go_roundw
      case rel =>
        refine ⟨k + 1, _, by omega, by go_num, rfl, by omega, by omega, ext_ex (by (repeat (first | with_reducible exact Bel.refl _ | with_reducible assumption | apply Bel.ext | apply Bel.alloc | apply Bel.drew | exact Bel.refl _ | refine Bel.set ?_ (by first | (simp; done) | (simp [go_sem]; done) | omega) _)) : Bel _ _), Lib.hid ?_⟩
        rw [hv.out, drop_cons_of hx.out]; rfl
      case measure => simp [intOf]; omega
    · go_wp2
      go_ret
      refine Ret.mk ?_ (?_ : Bel _ _)
      · rw [hv.out, List.drop_of_length_le (by rw [← HL.out]; omega)]; rfl
      · (repeat (first | with_reducible exact Bel.refl _ | with_reducible assumption | apply Bel.ext | apply Bel.alloc | apply Bel.drew | exact Bel.refl _ | refine Bel.set ?_ (by first | (simp; done) | (simp [go_sem]; done) | omega) _))
set_option maxHeartbeats 2000000 in
theorem l14Squares_c (a b c e p m : Int) (u : Value) (xs : List (Int × Int)) (hm : modelB a b c = true) (he : ephB e p = true) (h3 : magB m = true) (hx : curveB xs = true) (w : World) (hu : Rd cel2 w u xs) :
    Calls Try.prog 66 #[.agg #[.int .i64 a, .int .i64 b, .int .i64 c], .agg #[.int .i64 e, .int .i64 p], .int .i64 m, u] w (Ret (.int .i64 (sqFrom a b c e p m 0 xs)) w) := by
  refine hide_ret fun v H => ?_
  obtain ⟨aa, n, cc, rfl, hs⟩ := hu.sl
  have hcap := hs.le; have hmax := hs.cap
  unfold maxLen at hmax
  have HL := Lib.hid hs.len
  obtain ⟨m1, m2⟩ := magB_iff.1 h3
  have hn : n ≤ 100 := by rw [HL.out]; simp [curveB] at hx; exact hx.1
  have HP : Hid (pairOk timeB magB none xs = true) := by simp [curveB] at hx; exact hx.2
  clear hx
  have hA := (modelB_iff.1 hm).2.1
  go_enter Try.func66, Try.ntmps66
  go_wp2
  go_loopw [9, 10] (fun s i wr => ∃ (k : Nat) (z : Int), k ≤ n ∧ i = .int .i64 k ∧ s = .int .i64 z ∧ 0 ≤ z ∧ z ≤ k * 10000000000 ∧ (∃ g, wr = ext ((w.alloc (Obj.cells #[.int .i64 a, .int .i64 b, .int .i64 c] 25)).alloc (Obj.cells #[.int .i64 e, .int .i64 p] 37)) g) ∧ Hid (v = .int .i64 (sqFrom a b c e p m z (xs.drop k)))) (fun _ i _ => n - (intOf i).toNat)
  case atStart => exact ⟨0, 0, Nat.zero_le _, rfl, rfl, by omega, by omega, ext_ex (Bel.refl _), Lib.hid (by rw [← H.out]; rfl)⟩
  case round =>
    obtain ⟨k, z, hk, rfl, rfl, z1, z2, ⟨g, rfl⟩, hv⟩ := hrel
    by_cases hlt : k < n
    · obtain ⟨bb, off, rfl, hb⟩ := hs.base hlt
      obtain ⟨t, y, hx, hc0, hc1⟩ := hs.at2 hlt
      obtain ⟨q1, q2⟩ := pairOk_get HP.out hx.out
      obtain ⟨t1, t2⟩ := timeB_iff.1 q1
      obtain ⟨y1, y2⟩ := magB_iff.1 q2
      clear q1 q2
      dsimp only at t1 t2 y1 y2
      have db := dropI_bd (minI (phaseI e p t) (p - phaseI e p t)) hm
      have r1 : -2000 ≤ magAtI a b c e p m t := by unfold magAtI; omega
      have r2 : magAtI a b c e p m t ≤ 25000 := by unfold magAtI; omega
      clear db
      obtain ⟨s1, s2⟩ := sq_bd (d := y - magAtI a b c e p m t) (by omega) (by omega)
      have w1 : IntKind.i64.wrap (y - magAtI a b c e p m t) = y - magAtI a b c e p m t := IntWalk.i64_in _ (by omega)
      go_wp2_with (first | (go_at_call 61; refine (l14Mag_c _ _ _ _ _ _ _ (by assumption) (by assumption) (by omega) (by omega) (by omega) (by omega) _).mono ?_; rintro ee ww ⟨rfl, _, rfl⟩))
      all_goals (try ((refine region_ext (by kernel_rfl) (by kernel_rfl) ?_; (repeat (go_big_quiet_step (first | (go_at_call 61; exact Calls.in_ret (l14Mag_c _ _ _ _ _ _ _ (by assumption) (by assumption) (by omega) (by omega) (by omega) (by omega) _))))); refine wpQuiet_nil ?_; rintro _ ⟨_, rfl⟩); go_wp2_with (first | (go_at_call 61; refine (l14Mag_c _ _ _ _ _ _ _ (by assumption) (by assumption) (by omega) (by omega) (by omega) (by omega) _).mono ?_; rintro ee ww ⟨rfl, _, rfl⟩))))
      go_roundw
      case rel =>
        refine ⟨k + 1, _, by omega, by go_num, rfl, by omega, by omega, ext_ex (by (repeat (first | with_reducible exact Bel.refl _ | with_reducible assumption | apply Bel.ext | apply Bel.alloc | apply Bel.drew | exact Bel.refl _ | refine Bel.set ?_ (by first | (simp; done) | (simp [go_sem]; done) | omega) _)) : Bel _ _), Lib.hid ?_⟩
        rw [hv.out, drop_cons_of hx.out]; rfl
      case measure => simp [intOf]; omega
    · go_wp2
      go_ret
      refine Ret.mk ?_ (?_ : Bel _ _)
      · rw [hv.out, List.drop_of_length_le (by rw [← HL.out]; omega)]; rfl
      · (repeat (first | with_reducible exact Bel.refl _ | with_reducible assumption | apply Bel.ext | apply Bel.alloc | apply Bel.drew | exact Bel.refl _ | refine Bel.set ?_ (by first | (simp; done) | (simp [go_sem]; done) | omega) _))
def modelSqI (a b c e p m : Int) (xs : List (Int × Int)) : Int × Int := if !modelB a b c || !ephB e p || !curveB xs then (0, 1) else if !magB m then (0, 2) else (sqFrom a b c e p m 0 xs, 0)
set_option maxHeartbeats 2000000 in
theorem ModelSquares_c (a b c e p m : Int) (u : Value) (xs : List (Int × Int)) (w : World) (hu : Rd cel2 w u xs) :
    Calls Try.prog 33 #[.agg #[.int .i64 a, .int .i64 b, .int .i64 c], .agg #[.int .i64 e, .int .i64 p], .int .i64 m, u] w (Ret (.tuple #[.int .i64 (modelSqI a b c e p m xs).1, .int .i64 (modelSqI a b c e p m xs).2]) w) := by
  refine hide_ret fun v H => ?_
  have hr : ∀ x, Bel w x → Rd cel2 x u xs := fun x hx => hu.bel hx
  rcases hm : modelB a b c with _ | _ <;> rcases he : ephB e p with _ | _ <;> rcases h1 : curveB xs with _ | _ <;> rcases h2 : magB m with _ | _ <;> simp only [modelSqI, hm, he, h1, h2, Bool.not_true, Bool.not_false, Bool.true_or, Bool.or_true, Bool.false_or, Bool.or_false, Bool.true_and, Bool.and_true, Bool.false_and, Bool.and_false, if_true, if_false, Bool.false_eq_true] at H
  all_goals
    go_enter Try.func33, Try.ntmps33
    go_wp2_with (first | (go_at_call 14; refine (ValidModel_c _ _ _ _).mono ?_; rintro ee ww ⟨rfl, _, rfl⟩) | (go_at_call 55; refine (ValidEphemeris_c _ _ _).mono ?_; rintro ee ww ⟨rfl, _, rfl⟩) | (go_at_call 62; refine (ValidMag_c _ _).mono ?_; rintro ee ww ⟨rfl, rfl⟩) | (go_at_call 68; refine Calls.mono (ValidCurve_c _ _ _ (hr _ ?_)) ?_; (focus (repeat (first | with_reducible exact Bel.refl _ | with_reducible assumption | apply Bel.ext | apply Bel.alloc | apply Bel.drew | exact Bel.refl _))); rintro ee ww ⟨rfl, _, rfl⟩) | (go_at_call 69; refine Calls.mono (squares_c _ _ _ _ _ _ _ xs hm he h2 h1 _ (hr _ ?_)) ?_; (focus (repeat (first | with_reducible exact Bel.refl _ | with_reducible assumption | apply Bel.ext | apply Bel.alloc | apply Bel.drew | exact Bel.refl _))); rintro ee ww ⟨rfl, _, rfl⟩))
    go_ret2
    refine Ret.mk ?_ (?_ : Bel _ _)
    · exact H.out
    · (repeat (first | with_reducible exact Bel.refl _ | with_reducible assumption | apply Bel.ext | apply Bel.alloc | apply Bel.drew | exact Bel.refl _ | refine Bel.set ?_ (by first | (simp; done) | (simp [go_sem]; done) | omega) _))
set_option maxHeartbeats 2000000 in
theorem sModelSquares_c (a b c e p m : Int) (u : Value) (xs : List (Int × Int)) (w : World) (hu : Rd cel2 w u xs) :
    Calls Try.prog 31 #[.agg #[.int .i64 a, .int .i64 b, .int .i64 c], .agg #[.int .i64 e, .int .i64 p], .int .i64 m, u] w (Ret (.tuple #[.int .i64 (modelSqI a b c e p m xs).1, .int .i64 (modelSqI a b c e p m xs).2]) w) := by
  refine hide_ret fun v H => ?_
  have hr : ∀ x, Bel w x → Rd cel2 x u xs := fun x hx => hu.bel hx
  rcases hm : modelB a b c with _ | _ <;> rcases he : ephB e p with _ | _ <;> rcases h1 : curveB xs with _ | _ <;> rcases h2 : magB m with _ | _ <;> simp only [modelSqI, hm, he, h1, h2, Bool.not_true, Bool.not_false, Bool.true_or, Bool.or_true, Bool.false_or, Bool.or_false, Bool.true_and, Bool.and_true, Bool.false_and, Bool.and_false, if_true, if_false, Bool.false_eq_true] at H
  all_goals
    go_enter Try.func31, Try.ntmps31
    go_wp2_with (first | (go_at_call 47; refine (l14Ok_c _ _ _ _).mono ?_; rintro ee ww ⟨rfl, _, rfl⟩) | (go_at_call 54; refine (l09Ok_c _ _ _).mono ?_; rintro ee ww ⟨rfl, _, rfl⟩) | (go_at_call 59; refine (l02Mag_c _ _).mono ?_; rintro ee ww ⟨rfl, rfl⟩) | (go_at_call 65; refine Calls.mono (l08Ok_c _ _ _ (hr _ ?_)) ?_; (focus (repeat (first | with_reducible exact Bel.refl _ | with_reducible assumption | apply Bel.ext | apply Bel.alloc | apply Bel.drew | exact Bel.refl _))); rintro ee ww ⟨rfl, _, rfl⟩) | (go_at_call 66; refine Calls.mono (l14Squares_c _ _ _ _ _ _ _ xs hm he h2 h1 _ (hr _ ?_)) ?_; (focus (repeat (first | with_reducible exact Bel.refl _ | with_reducible assumption | apply Bel.ext | apply Bel.alloc | apply Bel.drew | exact Bel.refl _))); rintro ee ww ⟨rfl, _, rfl⟩))
    go_ret2
    refine Ret.mk ?_ (?_ : Bel _ _)
    · exact H.out
    · (repeat (first | with_reducible exact Bel.refl _ | with_reducible assumption | apply Bel.ext | apply Bel.alloc | apply Bel.drew | exact Bel.refl _ | refine Bel.set ?_ (by first | (simp; done) | (simp [go_sem]; done) | omega) _))
end Go.Proofs.Ytjdcdcfhnpephaa
