/- Extrema of a light curve: what the reference returns. -/
import Derived.Test.YtknlkljflibjbaaExtrema
namespace Go.Proofs.Ytknlkljflibjbaa
open Go.RowKit

theorem and_dec_true (B : Bool) (p : Prop) [Decidable p] (h : p) : (B && decide p) = B := by simp [h]
theorem and_dec_false (B : Bool) (p : Prop) [Decidable p] (h : ¬ p) : (B && decide p) = false := by simp [h]
set_option maxRecDepth 100000 in
set_option maxHeartbeats 16000000 in
theorem l12Kind_c (u : Value) (xs : List (Int × Int)) (i s : Nat) (hc : curveB xs = true) (hi : i < xs.length) (hs1 : 1 ≤ s) (hs10 : s ≤ 10) (w : World) (hu : Rd cel2 w u xs) :
    Calls Try.prog 96 #[u, .int .i64 i, .int .i64 s] w (Ret (.int .i64 (kindI xs i s)) w) := by
  refine hide_ret fun v H => ?_
  obtain ⟨a, n, c, rfl, hs⟩ := hu.sl
  have hcap := hs.le; have hmax := hs.cap
  unfold maxLen at hmax
  have hlen := curve_len hc
  have HL := Lib.hid hs.len
  rw [← HL.out] at hlen hi
  clear hc
  unfold kindI isExtI at H
  rw [← HL.out] at H
  have wi : IntKind.i64.wrap ((i : Int) + s) = (i : Int) + s := IntWalk.i64_in _ (by omega)
  by_cases h1 : s ≤ i
  case neg =>
    rw [decide_eq_false h1] at H
    simp only [Bool.false_and, Bool.false_eq_true, if_false] at H
    have h1' : (i : Int) < s := by omega
    go_enter Try.func96, Try.ntmps96
    go_wp2
    go_ret
    refine Ret.mk ?_ (?_ : Bel _ _)
    · exact H.out
    · (repeat (first | exact Bel.refl _ | apply Bel.ext | apply Bel.alloc | apply Bel.drew | refine Bel.set ?_ (by first | (simp; done) | (simp [go_sem]; done) | omega) _))
  by_cases h2 : i + s < n
  case neg =>
    rw [decide_eq_false h2] at H
    simp only [Bool.false_and, Bool.and_false, Bool.false_eq_true, if_false] at H
    have h1' : ¬ (i : Int) < s := by omega
    have h2' : (n : Int) ≤ (i : Int) + s := by omega
    go_enter Try.func96, Try.ntmps96
    go_wp2
    go_ret
    refine Ret.mk ?_ (?_ : Bel _ _)
    · exact H.out
    · (repeat (first | exact Bel.refl _ | apply Bel.ext | apply Bel.alloc | apply Bel.drew | refine Bel.set ?_ (by first | (simp; done) | (simp [go_sem]; done) | omega) _))
  rw [decide_eq_true h1, decide_eq_true h2] at H
  simp only [Bool.true_and] at H
  have h1' : ¬ (i : Int) < s := by omega
  have h2' : ¬ (n : Int) ≤ (i : Int) + s := by omega
  obtain ⟨p, hp⟩ : ∃ p : Nat, p = i - s := ⟨_, rfl⟩
  have v1 : IntKind.i64.wrap ((i : Int) - s) = (p : Int) := by rw [show (i : Int) - s = p from by omega]; exact IntWalk.i64_in _ (by omega)
  have v1' : (i : Int) - s = (p : Int) := by omega
  have HB := Lib.hid (bright_eq (magAt xs) i s h1)
  have HF := Lib.hid (faint_eq (magAt xs) i s h1)
  rw [← hp] at HB HF
  have hps : p + s = i := by omega
  have NB := Lib.hid (fun h => not_both (g := magAt xs) (i := i) hs1 h)
  clear hp v1
  go_enter Try.func96, Try.ntmps96
  go_wp2
  go_loopw [7, 8, 9] (fun b f k wr => ∃ c : Nat, c ≤ 2 * s + 1 ∧ k = .int .i64 ((p + c : Nat) : Int) ∧ b = .bool ((List.range c).all fun j => okBright (magAt xs) i (p + j)) ∧ f = .bool ((List.range c).all fun j => okFaint (magAt xs) i (p + j)) ∧ ∃ g, wr = ext w g) (fun _ _ k _ => p + 2 * s + 1 - (intOf k).toNat)
  case atStart => exact ⟨0, Nat.zero_le _, rfl, rfl, rfl, ext_ex (by (repeat (first | exact Bel.refl _ | apply Bel.ext | apply Bel.alloc | apply Bel.drew | refine Bel.set ?_ (by first | (simp; done) | (simp [go_sem]; done) | omega) _)) : Bel _ _)⟩
  case round =>
    obtain ⟨c, hcc, rfl, rfl, rfl, ⟨g, rfl⟩⟩ := hrel
    clear v1'
    by_cases hlt : c < 2 * s + 1
    · obtain ⟨b, off, rfl, hb⟩ := hs.base hi
      have e1 := all_range_succ (fun j => okBright (magAt xs) i (p + j)) c
      have e2 := all_range_succ (fun j => okFaint (magAt xs) i (p + j)) c
      obtain ⟨q, hq⟩ : ∃ q : Nat, q = p + c := ⟨_, rfl⟩
      have hqn : q < n := by omega
      have hqs : (q : Int) ≤ (i : Int) + s := by omega
      have hm : n - q ≤ n := by omega
      obtain ⟨x0, y0, hx0, hc0, hd0⟩ := hs.at2 hi
      obtain ⟨x1, y1, hx1, hc1, hd1⟩ := hs.at2 hqn
      have g0 := magAt_of hx0.out
      have g1 := magAt_of hx1.out
      have o1 : okBright (magAt xs) i (p + c) = if q = i then true else if q < i then decide (y0 < y1) else decide (y0 ≤ y1) := by unfold okBright; rw [← hq, g0, g1]
      have o2 : okFaint (magAt xs) i (p + c) = if q = i then true else if q < i then decide (y1 < y0) else decide (y1 ≤ y0) := by unfold okFaint; rw [← hq, g0, g1]
      rw [o1] at e1
      rw [o2] at e2
      have E1 := Lib.hid e1
      have E2 := Lib.hid e2
      have hq1 : p + (c + 1) = q + 1 := by omega
      have HQ := Lib.hid hq1
      have hmeas : p + 2 * s + 1 - (q + 1) < p + 2 * s + 1 - q := by omega
      have hqc : c + 1 ≤ 2 * s + 1 := by omega
      rw [← hq]
      clear e1 e2 o1 o2 g0 g1 hq hq1
      generalize ((List.range c).all fun j => okBright (magAt xs) i (p + j)) = B at *
      generalize ((List.range c).all fun j => okFaint (magAt xs) i (p + j)) = F at *
      by_cases hqi : q = i
      · rw [if_pos hqi, Bool.and_true] at E1 E2
        subst hqi
        have hqq : ((q : Int) == (q : Int)) = true := by simp
        go_wp2
        go_roundw
        case rel => exact ⟨c + 1, hqc, by rw [HQ.out]; go_num, by rw [E1.out], by rw [E2.out], ext_ex (by (repeat (first | exact Bel.refl _ | apply Bel.ext | apply Bel.alloc | apply Bel.drew | refine Bel.set ?_ (by first | (simp; done) | (simp [go_sem]; done) | omega) _)) : Bel _ _)⟩
        case measure => simp [intOf]; omega
      · rw [if_neg hqi] at E1 E2
        have hqq : ((q : Int) == (i : Int)) = false := by simp; omega
        have fin : ∀ (X : Bool), X = (B && if q < i then decide (y0 < y1) else decide (y0 ≤ y1)) → X = (if q < i then (B && decide (y0 < y1)) else (B && decide (y0 ≤ y1))) := fun X h => by rw [h]; split <;> rfl
        have fin2 : ∀ (X : Bool), X = (F && if q < i then decide (y1 < y0) else decide (y1 ≤ y0)) → X = (if q < i then (F && decide (y1 < y0)) else (F && decide (y1 ≤ y0))) := fun X h => by rw [h]; split <;> rfl
        have E3 := Lib.hid (fin _ E1.out)
        have E4 := Lib.hid (fin2 _ E2.out)
        clear E1 E2 fin fin2
        rcases Nat.lt_or_ge q i with hqi2 | hqi2
        · rw [if_pos hqi2] at E3 E4
          rcases Int.lt_trichotomy y1 y0 with hy | hy | hy
          all_goals
            have hz : (y1 == y0) = decide (y1 = y0) := by rw [Bool.eq_iff_iff]; simp
            first | rw [decide_eq_true hy] at hz | rw [decide_eq_false (show ¬ y1 = y0 by omega)] at hz
            first | have hd1 : decide (y1 < y0) = true := decide_eq_true (by omega) | have hd1 : decide (y1 < y0) = false := decide_eq_false (by omega)
            first | have hd2 : decide (y0 < y1) = true := decide_eq_true (by omega) | have hd2 : decide (y0 < y1) = false := decide_eq_false (by omega)
            have hd3 : decide ((q : Int) < i) = decide (q < i) := by rw [Bool.eq_iff_iff]; simp
            first | rw [decide_eq_true hqi2] at hd3 | rw [decide_eq_false (show ¬ q < i by omega)] at hd3
            go_wp2_with fail
            refine region_ext (by kernel_rfl) (by kernel_rfl) ?_
            repeat (go_big_quiet_step (fail))
            refine wpQuiet_nil ?_
            rintro _ ⟨_, rfl⟩
            go_wp2_with fail
            refine region_ext (by kernel_rfl) (by kernel_rfl) ?_
            repeat (go_big_quiet_step (fail))
            refine wpQuiet_nil ?_
            rintro _ ⟨_, rfl⟩
            go_wp2
            go_roundw
            case rel => exact ⟨c + 1, hqc, by rw [HQ.out]; go_num, by first | exact congrArg Value.bool (E3.out.trans (and_dec_true _ _ (by omega))).symm | exact congrArg Value.bool (E3.out.trans (and_dec_false _ _ (by omega))).symm, by first | exact congrArg Value.bool (E4.out.trans (and_dec_true _ _ (by omega))).symm | exact congrArg Value.bool (E4.out.trans (and_dec_false _ _ (by omega))).symm, ext_ex (by (repeat (first | exact Bel.refl _ | apply Bel.ext | apply Bel.alloc | apply Bel.drew | refine Bel.set ?_ (by first | (simp; done) | (simp [go_sem]; done) | omega) _)) : Bel _ _)⟩
            case measure => simp [intOf]; omega
        · have hqi3 : ¬ (q : Int) < i := by omega
          rw [if_neg (show ¬ q < i by omega)] at E3 E4
          rcases Int.lt_trichotomy y1 y0 with hy | hy | hy
          all_goals
            have hz : (y1 == y0) = decide (y1 = y0) := by rw [Bool.eq_iff_iff]; simp
            first | rw [decide_eq_true hy] at hz | rw [decide_eq_false (show ¬ y1 = y0 by omega)] at hz
            first | have hd1 : decide (y1 < y0) = true := decide_eq_true (by omega) | have hd1 : decide (y1 < y0) = false := decide_eq_false (by omega)
            first | have hd2 : decide (y0 < y1) = true := decide_eq_true (by omega) | have hd2 : decide (y0 < y1) = false := decide_eq_false (by omega)
            have hd3 : decide ((q : Int) < i) = decide (q < i) := by rw [Bool.eq_iff_iff]; simp
            first | rw [decide_eq_true hqi2] at hd3 | rw [decide_eq_false (show ¬ q < i by omega)] at hd3
            go_wp2_with fail
            refine region_ext (by kernel_rfl) (by kernel_rfl) ?_
            repeat (go_big_quiet_step (fail))
            refine wpQuiet_nil ?_
            rintro _ ⟨_, rfl⟩
            go_wp2_with fail
            refine region_ext (by kernel_rfl) (by kernel_rfl) ?_
            repeat (go_big_quiet_step (fail))
            refine wpQuiet_nil ?_
            rintro _ ⟨_, rfl⟩
            go_wp2
            go_roundw
            case rel => exact ⟨c + 1, hqc, by rw [HQ.out]; go_num, by first | exact congrArg Value.bool (E3.out.trans (and_dec_true _ _ (by omega))).symm | exact congrArg Value.bool (E3.out.trans (and_dec_false _ _ (by omega))).symm, by first | exact congrArg Value.bool (E4.out.trans (and_dec_true _ _ (by omega))).symm | exact congrArg Value.bool (E4.out.trans (and_dec_false _ _ (by omega))).symm, ext_ex (by (repeat (first | exact Bel.refl _ | apply Bel.ext | apply Bel.alloc | apply Bel.drew | refine Bel.set ?_ (by first | (simp; done) | (simp [go_sem]; done) | omega) _)) : Bel _ _)⟩
            case measure => simp [intOf]; omega
    · have hcs : c = 2 * s + 1 := by omega
      subst hcs
      have hend : ¬ ((p + (2 * s + 1) : Nat) : Int) ≤ (i : Int) + s := by omega
      rw [HB.out, HF.out]
      have HN := Lib.hid NB.out
      rcases q1 : extB 1 (magAt xs) i s with _ | _ <;> rcases q2 : extB (-1) (magAt xs) i s with _ | _ <;> simp only [q1, q2, Bool.not_true, Bool.not_false, if_true, if_false, Bool.false_eq_true] at H
      case true.true => exact absurd (HN.out q1) (by rw [q2]; simp)
      all_goals
        clear q1 q2 HB HF
        go_wp2
        go_ret
        refine Ret.mk ?_ (?_ : Bel _ _)
        · exact H.out
        · (repeat (first | exact Bel.refl _ | apply Bel.ext | apply Bel.alloc | apply Bel.drew | refine Bel.set ?_ (by first | (simp; done) | (simp [go_sem]; done) | omega) _))
set_option maxHeartbeats 4000000 in
theorem l12All_c (u : Value) (xs : List (Int × Int)) (s : Nat) (hc : curveB xs = true) (hs1 : 1 ≤ s) (hs10 : s ≤ 10) (w : World) (hu : Rd cel2 w u xs) :
    Calls Try.prog 54 #[u, .int .i64 s] w (RetRow 88 2 (fun v => v) (extL xs s xs.length).length (cel2.row (extL xs s xs.length)) w) := by
  generalize hR : RetRow _ _ _ _ _ w = R
  have HR := Lib.hid hR
  clear hR
  obtain ⟨a, n, c, rfl, hs⟩ := hu.sl
  have hcap := hs.le; have hmax := hs.cap
  unfold maxLen at hmax
  have hlen := curve_len hc
  have HL := Lib.hid hs.len
  rw [← HL.out] at HR hlen
  have HE := Lib.hid (fun (i : Nat) (hi : i < n) w hu => l12Kind_c (.slice a n c) xs i s hc (by rw [← HL.out]; exact hi) hs1 hs10 w hu)
  clear hc
  go_enter Try.func54, Try.ntmps54
  go_wp2
  go_loopw [5, 6] (fun o i wr => ∃ k : Nat, k ≤ n ∧ i = .int .i64 k ∧ Bel w wr ∧ Hid (wr.ownsRow w.heap.size 88 2 o (extL xs s k).length (cel2.row (extL xs s k)))) (fun _ i _ => n - (intOf i).toNat)
  case atStart => exact ⟨0, by omega, by go_num, by (repeat (first | exact Bel.refl _ | apply Bel.ext | apply Bel.alloc | apply Bel.drew | refine Bel.set ?_ (by first | (simp; done) | (simp [go_sem]; done) | omega) _)), Lib.hid (by refine own_empty _ _ _ _ ?_; exact bel_size (by (repeat (first | exact Bel.refl _ | apply Bel.ext | apply Bel.alloc | apply Bel.drew | refine Bel.set ?_ (by first | (simp; done) | (simp [go_sem]; done) | omega) _))))⟩
  case round =>
    obtain ⟨k, hk, rfl, hbel, hown⟩ := hrel
    obtain ⟨g', rfl⟩ := ext_ex hbel
    by_cases hlt : k < n
    · have hfl := extL_len xs s k
      have E1 := Lib.hid (fun w hu => HE.out k hlt w hu)
      have hnone := extL_none (xs := xs) (s := s) (c := k)
      have hsome := extL_some (xs := xs) (s := s) (c := k)
      generalize kindI xs k s = kd at *
      by_cases hk0 : kd = 0
      · have HF := Lib.hid (hnone hk0)
        subst hk0
        clear hnone hsome
        generalize extL xs s k = ys at *
        go_wp2_with (first | (go_at_call 96; refine Calls.mono (E1.out _ (hu.bel ?_)) ?_; (focus (repeat (first | exact Bel.refl _ | apply Bel.ext | apply Bel.alloc | apply Bel.drew | refine Bel.set ?_ (by first | (simp; done) | (simp [go_sem]; done) | omega) _))); rintro ee ww ⟨rfl, _, rfl⟩))
        go_roundw
        case rel =>
          refine ⟨k + 1, by omega, by go_num, by (repeat (first | exact Bel.refl _ | apply Bel.ext | apply Bel.alloc | apply Bel.drew | refine Bel.set ?_ (by first | (simp; done) | (simp [go_sem]; done) | omega) _)), Lib.hid ?_⟩
          rw [HF.out]; exact own_bel hown.out (by (repeat (first | exact Bel.refl _ | apply Bel.ext | apply Bel.alloc | apply Bel.drew | refine Bel.set ?_ (by first | (simp; done) | (simp [go_sem]; done) | omega) _)))
        case measure => simp [intOf]; omega
      · have HF := Lib.hid (hsome hk0)
        have hz : (kd != 0) = true := by simp [hk0]
        have hz2 : (kd == 0) = false := by simp [hk0]
        clear hnone hsome hk0
        generalize extL xs s k = ys at *
        go_wp2_with (first | (at_builtin; refine wpList_append_new rfl (.tmp 21) (.tmp 25) 24 88 2 16 rfl appExtremum (by decide) w _ _ _ 1 [.int .i64 kd, .int .i64 k] rfl (by first | with_reducible rfl | (simp [go_sem]; done)) rfl (by intro u hu; simp at hu; first | (subst hu; rfl) | (rcases hu with rfl | rfl <;> rfl) | (rcases hu with rfl | rfl | rfl <;> rfl)) (own_bel hown.out ?_) ?_ (by omega) (by omega) ?_; (focus (repeat (first | exact Bel.refl _ | apply Bel.ext | apply Bel.alloc | apply Bel.drew))); (focus (repeat (first | exact Bel.refl _ | apply Bel.ext | apply Bel.alloc | apply Bel.drew))); intro v2 g2 hown2 hgr2) | (go_at_call 96; refine Calls.mono (E1.out _ (hu.bel ?_)) ?_; (focus (repeat (first | exact Bel.refl _ | apply Bel.ext | apply Bel.alloc | apply Bel.drew | refine Bel.set ?_ (by first | (simp; done) | (simp [go_sem]; done) | omega) _))); rintro ee ww ⟨rfl, _, rfl⟩))
        go_roundw
        case rel =>
          refine ⟨k + 1, by omega, by go_num, by (repeat (first | exact Bel.refl _ | apply Bel.ext | apply Bel.alloc | apply Bel.drew | refine Bel.set ?_ (by first | (simp; done) | (simp [go_sem]; done) | omega) _)), Lib.hid ?_⟩
          rw [HF.out, Cel.row_append, Cel.row_one, List.length_append]; exact hown2
        case measure => simp [intOf]; omega
    · have hk' : k = n := by omega
      subst hk'
      go_wp2
      rw [← HR.out]
      exact RetRow.mk' rfl (by (repeat (first | exact Bel.refl _ | apply Bel.ext | apply Bel.alloc | apply Bel.drew | refine Bel.set ?_ (by first | (simp; done) | (simp [go_sem]; done) | omega) _)) : Bel _ _) hown.out
def sideI (xs : List (Int × Int)) (s : Int) : Int := if !curveB xs then 1 else if !inB s 1 10 then 2 else 0
set_option maxHeartbeats 2000000 in
theorem l12Side_c (u : Value) (xs : List (Int × Int)) (s : Int) (w : World) (hu : Rd cel2 w u xs) :
    Calls Try.prog 53 #[u, .int .i64 s] w (Ret (.int .i64 (sideI xs s)) w) := by
  refine hide_ret fun v H => ?_
  have HV := Lib.hid (fun w hu => l08Ok_c u xs w hu)
  have HT := Lib.hid (fun w => l00In_c s 1 10 w)
  unfold sideI at H
  rcases h1 : curveB xs with _ | _ <;> rcases h2 : inB s 1 10 with _ | _ <;> simp only [h1, h2, Bool.not_true, Bool.not_false, if_true, if_false, Bool.false_eq_true] at H HV HT
  all_goals
    clear h1 h2
    go_enter Try.func53, Try.ntmps53
    go_wp2_with (first | (go_at_call 60; refine Calls.mono (HV.out _ (hu.bel ?_)) ?_; (focus (repeat (first | exact Bel.refl _ | apply Bel.ext | apply Bel.alloc | apply Bel.drew))); rintro ee ww ⟨rfl, _, rfl⟩) | (go_at_call 62; refine Calls.mono (HT.out _) ?_; rintro ee ww ⟨rfl, rfl⟩))
    go_ret
    refine Ret.mk ?_ (?_ : Bel _ _)
    · exact H.out
    · (repeat (first | exact Bel.refl _ | apply Bel.ext | apply Bel.alloc | apply Bel.drew | refine Bel.set ?_ (by first | (simp; done) | (simp [go_sem]; done) | omega) _))
set_option maxHeartbeats 2000000 in
theorem sExtremaOf_c (u : Value) (xs : List (Int × Int)) (s : Int) (w : World) (hu : Rd cel2 w u xs) :
    Calls Try.prog 13 #[u, .int .i64 s] w (RetRow 88 2 (fun v => .tuple #[v, .int .i64 (extI xs s).2]) (extI xs s).1.length (cel2.row (extI xs s).1) w) := by
  generalize hR : RetRow _ _ _ _ _ w = R
  have HR := Lib.hid hR
  clear hR
  have HV := Lib.hid (fun w hu => l12Side_c u xs s w hu)
  unfold sideI at HV
  unfold extI at HR
  rcases h1 : curveB xs with _ | _ <;> rcases h2 : inB s 1 10 with _ | _ <;> simp only [h1, h2, Bool.not_true, Bool.not_false, if_true, if_false, Bool.false_eq_true] at HR HV
  case true.true =>
    obtain ⟨s1, s2⟩ := inB_iff.1 h2
    obtain ⟨k, rfl⟩ : ∃ k : Nat, s = k := ⟨s.toNat, by omega⟩
    have HE := Lib.hid (fun w hu => l12All_c u xs k h1 (by omega) (by omega) w hu)
    rw [Int.toNat_natCast] at HR
    clear h1 h2
    go_enter Try.func13, Try.ntmps13
    go_wp2_with (first | (go_at_call 53; refine Calls.mono (HV.out _ (hu.bel ?_)) ?_; (focus (repeat (first | exact Bel.refl _ | apply Bel.ext | apply Bel.alloc | apply Bel.drew))); rintro ee ww ⟨rfl, _, rfl⟩) | (go_at_call 54; refine Calls.mono (HE.out _ (hu.bel ?_)) ?_; (focus (repeat (first | exact Bel.refl _ | apply Bel.ext | apply Bel.alloc | apply Bel.drew | refine Bel.set ?_ (by first | (simp; done) | (simp [go_sem]; done) | omega) _))); rintro ee ww ⟨v0, g0, rfl, rfl, hown⟩))
    rw [← HR.out]
    refine RetRow.mk' rfl (by (repeat (first | exact Bel.refl _ | apply Bel.ext | apply Bel.alloc | apply Bel.drew | refine Bel.set ?_ (by first | (simp; done) | (simp [go_sem]; done) | omega) _)) : Bel _ _) ?_
    refine own_mono hown (bel_size ?_)
    (repeat (first | exact Bel.refl _ | apply Bel.ext | apply Bel.alloc | apply Bel.drew | refine Bel.set ?_ (by first | (simp; done) | (simp [go_sem]; done) | omega) _))
  all_goals
    clear h1 h2
    go_enter Try.func13, Try.ntmps13
    go_wp2_with (first | (go_at_call 53; refine Calls.mono (HV.out _ (hu.bel ?_)) ?_; (focus (repeat (first | exact Bel.refl _ | apply Bel.ext | apply Bel.alloc | apply Bel.drew))); rintro ee ww ⟨rfl, _, rfl⟩))
    rw [← HR.out]
    exact RetRow.mk' rfl (by (repeat (first | exact Bel.refl _ | apply Bel.ext | apply Bel.alloc | apply Bel.drew | refine Bel.set ?_ (by first | (simp; done) | (simp [go_sem]; done) | omega) _)) : Bel _ _) (World.ownsRow_nil _ _ _ _)
end Go.Proofs.Ytknlkljflibjbaa
