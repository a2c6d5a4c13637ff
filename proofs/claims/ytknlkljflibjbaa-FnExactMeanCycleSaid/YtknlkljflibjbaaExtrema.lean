/- Extrema of a light curve: what both sides return. -/
import Derived.Test.YtknlkljflibjbaaExtPlain
import Derived.Test.YtknlkljflibjbaaRowExtremum
namespace Go.Proofs.Ytknlkljflibjbaa
open Go.RowKit

set_option maxHeartbeats 4000000 in
theorem isExtremum_c (u : Value) (xs : List (Int × Int)) (i s : Nat) (t : Int) (ht : t = 1 ∨ t = -1) (hc : curveB xs = true) (hi : i < xs.length) (hs10 : s ≤ 10) (w : World) (hu : Rd cel2 w u xs) :
    Calls Try.prog 98 #[u, .int .i64 i, .int .i64 s, .int .i64 t] w (Ret (.bool (isExtI t xs i s)) w) := by
  refine hide_ret fun v H => ?_
  obtain ⟨a, n, c, rfl, hs⟩ := hu.sl
  have hcap := hs.le; have hmax := hs.cap
  unfold maxLen at hmax
  have hlen := curve_len hc
  have HL := Lib.hid hs.len
  rw [← HL.out] at hlen hi
  have HG := Lib.hid (fun (k : Nat) (x : Int × Int) (hx : xs[k]? = some x) => curve_get hc hx)
  clear hc
  unfold isExtI at H
  rw [← HL.out] at H
  have wi : IntKind.i64.wrap ((i : Int) + s) = (i : Int) + s := IntWalk.i64_in _ (by omega)
  by_cases h1 : s ≤ i
  case neg =>
    rw [decide_eq_false h1] at H
    have h1' : (i : Int) < s := by omega
    go_enter Try.func98, Try.ntmps98
    go_wp2
    go_ret
    refine Ret.mk ?_ (?_ : Bel _ _)
    · exact H.out
    · (repeat (first | exact Bel.refl _ | apply Bel.ext | apply Bel.alloc | apply Bel.drew | refine Bel.set ?_ (by first | (simp; done) | (simp [go_sem]; done) | omega) _))
  by_cases h2 : i + s < n
  case neg =>
    rw [decide_eq_false h2] at H
    have h1' : ¬ (i : Int) < s := by omega
    have h2' : (n : Int) ≤ (i : Int) + s := by omega
    go_enter Try.func98, Try.ntmps98
    go_wp2
    go_ret
    refine Ret.mk ?_ (?_ : Bel _ _)
    · rw [← H.out]; simp
    · (repeat (first | exact Bel.refl _ | apply Bel.ext | apply Bel.alloc | apply Bel.drew | refine Bel.set ?_ (by first | (simp; done) | (simp [go_sem]; done) | omega) _))
  rw [decide_eq_true h1, decide_eq_true h2] at H
  simp only [Bool.true_and] at H
  have h1' : ¬ (i : Int) < s := by omega
  have h2' : ¬ (n : Int) ≤ (i : Int) + s := by omega
  go_enter Try.func98, Try.ntmps98
  go_wp2
  go_loopw [9] (fun k wr => ∃ j : Nat, j ≤ s ∧ k = .int .i64 ((j : Int) + 1) ∧ (∃ g, wr = ext w g) ∧ Hid ((List.range j).all (extP t (magAt xs) i) = true)) (fun k _ => s + 1 - (intOf k).toNat)
  case atStart => exact ⟨0, Nat.zero_le _, by go_num, ext_ex (by (repeat (first | exact Bel.refl _ | apply Bel.ext | apply Bel.alloc | apply Bel.drew | refine Bel.set ?_ (by first | (simp; done) | (simp [go_sem]; done) | omega) _)) : Bel _ _), Lib.hid (by simp)⟩
  case round =>
    obtain ⟨j, hj, rfl, ⟨g, rfl⟩, hall⟩ := hrel
    by_cases hlt : j < s
    · have hltz : (j : Int) + 1 ≤ s := by omega
      obtain ⟨b, off, rfl, hb⟩ := hs.base hi
      obtain ⟨p, hp⟩ : ∃ p : Nat, p = i - (j + 1) := ⟨_, rfl⟩
      obtain ⟨q, hq⟩ : ∃ q : Nat, q = i + (j + 1) := ⟨_, rfl⟩
      obtain ⟨x0, y0, hx0, hc0, hd0⟩ := hs.at2 hi
      obtain ⟨x1, y1, hx1, hc1, hd1⟩ := hs.at2 (k := p) (by omega)
      obtain ⟨x2, y2, hx2, hc2, hd2⟩ := hs.at2 (k := q) (by omega)
      obtain ⟨_, _, b1, b2⟩ := HG.out _ _ hx0.out
      obtain ⟨_, _, b3, b4⟩ := HG.out _ _ hx1.out
      obtain ⟨_, _, b5, b6⟩ := HG.out _ _ hx2.out
      simp only at b1 b2 b3 b4 b5 b6
      have e0 := magAt_of hx0.out
      have e1 := magAt_of hx1.out
      have e2 := magAt_of hx2.out
      have hP : extP t (magAt xs) i j = (decide (0 < t * (y1 - y0)) && decide (0 ≤ t * (y2 - y0))) := by unfold extP; rw [← hp, ← hq, e0, e1, e2]
      have HP := Lib.hid hP
      have m1 : -22000 ≤ t * (y1 - y0) ∧ t * (y1 - y0) ≤ 22000 := by rcases ht with rfl | rfl <;> omega
      have m2 : -22000 ≤ t * (y2 - y0) ∧ t * (y2 - y0) ≤ 22000 := by rcases ht with rfl | rfl <;> omega
      have v1 : IntKind.i64.wrap ((i : Int) - ((j : Int) + 1)) = (p : Int) := by rw [show (i : Int) - ((j : Int) + 1) = p from by omega]; exact IntWalk.i64_in _ (by omega)
      have v2 : IntKind.i64.wrap ((i : Int) + ((j : Int) + 1)) = (q : Int) := by rw [show (i : Int) + ((j : Int) + 1) = q from by omega]; exact IntWalk.i64_in _ (by omega)
      have v3 : IntKind.i64.wrap (y1 - y0) = y1 - y0 := IntWalk.i64_in _ (by omega)
      have v4 : IntKind.i64.wrap (y2 - y0) = y2 - y0 := IntWalk.i64_in _ (by omega)
      have v5 : IntKind.i64.wrap (t * (y1 - y0)) = t * (y1 - y0) := IntWalk.i64_in _ (by omega)
      have v6 : IntKind.i64.wrap (t * (y2 - y0)) = t * (y2 - y0) := IntWalk.i64_in _ (by omega)
      have hpn : p < n := by omega
      have hqn : q < n := by omega
      clear hP hp hq e0 e1 e2 ht
      go_wp2_with fail
      refine region_ext (by kernel_rfl) (by kernel_rfl) ?_
      repeat (go_big_quiet_step (fail))
      refine wpQuiet_nil ?_
      rintro _ ⟨_, rfl⟩
      clear v1 v2 v3 v4 v5 v6
      generalize t * (y1 - y0) = m at *
      generalize t * (y2 - y0) = m' at *
      by_cases k1 : 0 < m
      · by_cases k2 : 0 ≤ m'
        · go_wp2
          go_roundw
          case rel =>
            refine ⟨j + 1, by omega, by go_num, ext_ex (by (repeat (first | exact Bel.refl _ | apply Bel.ext | apply Bel.alloc | apply Bel.drew | refine Bel.set ?_ (by first | (simp; done) | (simp [go_sem]; done) | omega) _)) : Bel _ _), Lib.hid ?_⟩
            rw [all_range_succ, hall.out, HP.out, decide_eq_true k1, decide_eq_true k2]; rfl
          case measure => simp [intOf]; omega
        · go_wp2
          go_ret
          refine Ret.mk ?_ (?_ : Bel _ _)
          · rw [← H.out, show extB t (magAt xs) i s = false from all_range_bad hlt (by rw [HP.out, show decide (0 ≤ m') = false from decide_eq_false (by omega)]; simp)]; rfl
          · (repeat (first | exact Bel.refl _ | apply Bel.ext | apply Bel.alloc | apply Bel.drew | refine Bel.set ?_ (by first | (simp; done) | (simp [go_sem]; done) | omega) _))
      · go_wp2
        go_ret
        refine Ret.mk ?_ (?_ : Bel _ _)
        · rw [← H.out, show extB t (magAt xs) i s = false from all_range_bad hlt (by rw [HP.out, show decide (0 < m) = false from decide_eq_false (by omega)]; simp)]; rfl
        · (repeat (first | exact Bel.refl _ | apply Bel.ext | apply Bel.alloc | apply Bel.drew | refine Bel.set ?_ (by first | (simp; done) | (simp [go_sem]; done) | omega) _))
    · have hltz : ¬ (j : Int) + 1 ≤ s := by omega
      have hjs : j = s := by omega
      have HJ := Lib.hid (hjs ▸ hall.out)
      clear hall hjs
      go_wp2
      go_ret
      refine Ret.mk ?_ (?_ : Bel _ _)
      · rw [← H.out, show extB t (magAt xs) i s = true from HJ.out]; rfl
      · (repeat (first | exact Bel.refl _ | apply Bel.ext | apply Bel.alloc | apply Bel.drew | refine Bel.set ?_ (by first | (simp; done) | (simp [go_sem]; done) | omega) _))
set_option maxHeartbeats 4000000 in
theorem extrema_c (u : Value) (xs : List (Int × Int)) (s : Nat) (hc : curveB xs = true) (hs10 : s ≤ 10) (w : World) (hu : Rd cel2 w u xs) :
    Calls Try.prog 57 #[u, .int .i64 s] w (RetRow 88 2 (fun v => v) (extL xs s xs.length).length (cel2.row (extL xs s xs.length)) w) := by
  generalize hR : RetRow _ _ _ _ _ w = R
  have HR := Lib.hid hR
  clear hR
  obtain ⟨a, n, c, rfl, hs⟩ := hu.sl
  have hcap := hs.le; have hmax := hs.cap
  unfold maxLen at hmax
  have hlen := curve_len hc
  have HL := Lib.hid hs.len
  rw [← HL.out] at HR hlen
  have HE := Lib.hid (fun (t : Int) (ht : t = 1 ∨ t = -1) (i : Nat) (hi : i < n) w hu => isExtremum_c (.slice a n c) xs i s t ht hc (by rw [← HL.out]; exact hi) hs10 w hu)
  clear hc
  go_enter Try.func57, Try.ntmps57
  go_wp2
  go_loopw [5, 10] (fun o i wr => ∃ k : Nat, k ≤ n ∧ i = .int .i64 k ∧ Bel w wr ∧ Hid (wr.ownsRow w.heap.size 88 2 o (extL xs s k).length (cel2.row (extL xs s k)))) (fun _ i _ => n - (intOf i).toNat)
  case atStart => exact ⟨0, by omega, by go_num, by (repeat (first | exact Bel.refl _ | apply Bel.ext | apply Bel.alloc | apply Bel.drew | refine Bel.set ?_ (by first | (simp; done) | (simp [go_sem]; done) | omega) _)), Lib.hid (by refine own_empty _ _ _ _ ?_; exact bel_size (by (repeat (first | exact Bel.refl _ | apply Bel.ext | apply Bel.alloc | apply Bel.drew | refine Bel.set ?_ (by first | (simp; done) | (simp [go_sem]; done) | omega) _))))⟩
  case round =>
    obtain ⟨k, hk, rfl, hbel, hown⟩ := hrel
    obtain ⟨g', rfl⟩ := ext_ex hbel
    by_cases hlt : k < n
    · have hfl := extL_len xs s k
      have E1 := Lib.hid (fun w hu => HE.out 1 (.inl rfl) k hlt w hu)
      have E2 := Lib.hid (fun w hu => HE.out (-1) (.inr rfl) k hlt w hu)
      have HK := Lib.hid (show kindI xs k s = if isExtI 1 xs k s then 1 else if isExtI (-1) xs k s then 2 else 0 from rfl)
      have hnone := extL_none (xs := xs) (s := s) (c := k)
      have hsome := extL_some (xs := xs) (s := s) (c := k)
      rcases q1 : isExtI 1 xs k s with _ | _ <;> rcases q2 : isExtI (-1) xs k s with _ | _ <;> simp only [q1, q2] at E1 E2 HK
      · have HF := Lib.hid (hnone (by rw [HK.out]; simp))
        clear hnone hsome q1 q2
        generalize extL xs s k = ys at *
        go_wp2_with (first | (go_at_call 98; (with_reducible refine Calls.mono (E1.out _ (hu.bel ?_)) ?_); (focus (repeat (first | exact Bel.refl _ | apply Bel.ext | apply Bel.alloc | apply Bel.drew | refine Bel.set ?_ (by first | (simp; done) | (simp [go_sem]; done) | omega) _))); rintro ee ww ⟨rfl, _, rfl⟩) | (go_at_call 98; (with_reducible refine Calls.mono (E2.out _ (hu.bel ?_)) ?_); (focus (repeat (first | exact Bel.refl _ | apply Bel.ext | apply Bel.alloc | apply Bel.drew | refine Bel.set ?_ (by first | (simp; done) | (simp [go_sem]; done) | omega) _))); rintro ee ww ⟨rfl, _, rfl⟩))
        go_roundw
        case rel =>
          refine ⟨k + 1, by omega, by go_num, by (repeat (first | exact Bel.refl _ | apply Bel.ext | apply Bel.alloc | apply Bel.drew | refine Bel.set ?_ (by first | (simp; done) | (simp [go_sem]; done) | omega) _)), Lib.hid ?_⟩
          rw [HF.out]; exact own_bel hown.out (by (repeat (first | exact Bel.refl _ | apply Bel.ext | apply Bel.alloc | apply Bel.drew | refine Bel.set ?_ (by first | (simp; done) | (simp [go_sem]; done) | omega) _)))
        case measure => simp [intOf]; omega
      · have HF := Lib.hid (hsome (by rw [HK.out]; simp))
        rw [HK.out] at HF
        clear hnone hsome q1 q2
        generalize extL xs s k = ys at *
        go_wp2_with (first | (at_builtin; refine wpList_append_new rfl (.tmp 28) (.tmp 31) 24 88 2 16 rfl appExtremum (by decide) w _ _ _ 1 [.int .i64 2, .int .i64 k] rfl (by first | with_reducible rfl | (simp [go_sem]; done)) rfl (by intro u hu; simp at hu; first | (subst hu; rfl) | (rcases hu with rfl | rfl <;> rfl) | (rcases hu with rfl | rfl | rfl <;> rfl)) (own_bel hown.out ?_) ?_ (by omega) (by omega) ?_; (focus (repeat (first | exact Bel.refl _ | apply Bel.ext | apply Bel.alloc | apply Bel.drew))); (focus (repeat (first | exact Bel.refl _ | apply Bel.ext | apply Bel.alloc | apply Bel.drew))); intro v2 g2 hown2 hgr2) | (go_at_call 98; (with_reducible refine Calls.mono (E1.out _ (hu.bel ?_)) ?_); (focus (repeat (first | exact Bel.refl _ | apply Bel.ext | apply Bel.alloc | apply Bel.drew | refine Bel.set ?_ (by first | (simp; done) | (simp [go_sem]; done) | omega) _))); rintro ee ww ⟨rfl, _, rfl⟩) | (go_at_call 98; (with_reducible refine Calls.mono (E2.out _ (hu.bel ?_)) ?_); (focus (repeat (first | exact Bel.refl _ | apply Bel.ext | apply Bel.alloc | apply Bel.drew | refine Bel.set ?_ (by first | (simp; done) | (simp [go_sem]; done) | omega) _))); rintro ee ww ⟨rfl, _, rfl⟩))
        go_roundw
        case rel =>
          refine ⟨k + 1, by omega, by go_num, by (repeat (first | exact Bel.refl _ | apply Bel.ext | apply Bel.alloc | apply Bel.drew | refine Bel.set ?_ (by first | (simp; done) | (simp [go_sem]; done) | omega) _)), Lib.hid ?_⟩
          rw [HF.out, Cel.row_append, Cel.row_one, List.length_append]; exact hown2
        case measure => simp [intOf]; omega
      all_goals
        have HF := Lib.hid (hsome (by rw [HK.out]; simp))
        rw [HK.out] at HF
        clear hnone hsome q1 q2
        generalize extL xs s k = ys at *
        go_wp2_with (first | (at_builtin; refine wpList_append_new rfl (.tmp 18) (.tmp 21) 24 88 2 16 rfl appExtremum (by decide) w _ _ _ 1 [.int .i64 1, .int .i64 k] rfl (by first | with_reducible rfl | (simp [go_sem]; done)) rfl (by intro u hu; simp at hu; first | (subst hu; rfl) | (rcases hu with rfl | rfl <;> rfl) | (rcases hu with rfl | rfl | rfl <;> rfl)) (own_bel hown.out ?_) ?_ (by omega) (by omega) ?_; (focus (repeat (first | exact Bel.refl _ | apply Bel.ext | apply Bel.alloc | apply Bel.drew))); (focus (repeat (first | exact Bel.refl _ | apply Bel.ext | apply Bel.alloc | apply Bel.drew))); intro v2 g2 hown2 hgr2) | (go_at_call 98; (with_reducible refine Calls.mono (E1.out _ (hu.bel ?_)) ?_); (focus (repeat (first | exact Bel.refl _ | apply Bel.ext | apply Bel.alloc | apply Bel.drew | refine Bel.set ?_ (by first | (simp; done) | (simp [go_sem]; done) | omega) _))); rintro ee ww ⟨rfl, _, rfl⟩))
        go_roundw
        case rel =>
          refine ⟨k + 1, by omega, by go_num, by (repeat (first | exact Bel.refl _ | apply Bel.ext | apply Bel.alloc | apply Bel.drew | refine Bel.set ?_ (by first | (simp; done) | (simp [go_sem]; done) | omega) _)), Lib.hid ?_⟩
          rw [HF.out, Cel.row_append, Cel.row_one, List.length_append]; exact hown2
        case measure => simp [intOf]; omega
    · have hk' : k = n := by omega
      subst hk'
      go_wp2
      rw [← HR.out]
      exact RetRow.mk' rfl (by (repeat (first | exact Bel.refl _ | apply Bel.ext | apply Bel.alloc | apply Bel.drew | refine Bel.set ?_ (by first | (simp; done) | (simp [go_sem]; done) | omega) _)) : Bel _ _) hown.out
set_option maxHeartbeats 2000000 in
theorem ExtremaOf_c (u : Value) (xs : List (Int × Int)) (s : Int) (w : World) (hu : Rd cel2 w u xs) :
    Calls Try.prog 15 #[u, .int .i64 s] w (RetRow 88 2 (fun v => .tuple #[v, .int .i64 (extI xs s).2]) (extI xs s).1.length (cel2.row (extI xs s).1) w) := by
  generalize hR : RetRow _ _ _ _ _ w = R
  have HR := Lib.hid hR
  clear hR
  have HV := Lib.hid (fun w hu => ValidCurve_c u xs w hu)
  have HT := Lib.hid (fun w => in_c s 1 10 w)
  unfold extI at HR
  rcases h1 : curveB xs with _ | _ <;> rcases h2 : inB s 1 10 with _ | _ <;> simp only [h1, h2, Bool.not_true, Bool.not_false, if_true, if_false, Bool.false_eq_true] at HR HV HT
  case true.true =>
    obtain ⟨s1, s2⟩ := inB_iff.1 h2
    obtain ⟨k, rfl⟩ : ∃ k : Nat, s = k := ⟨s.toNat, by omega⟩
    have HE := Lib.hid (fun w hu => extrema_c u xs k h1 (by omega) w hu)
    rw [Int.toNat_natCast] at HR
    clear h1 h2
    go_enter Try.func15, Try.ntmps15
    go_wp2_with (first | (go_at_call 55; refine Calls.mono (HV.out _ (hu.bel ?_)) ?_; (focus (repeat (first | exact Bel.refl _ | apply Bel.ext | apply Bel.alloc | apply Bel.drew))); rintro ee ww ⟨rfl, _, rfl⟩) | (go_at_call 56; refine Calls.mono (HT.out _) ?_; rintro ee ww ⟨rfl, rfl⟩) | (go_at_call 57; refine Calls.mono (HE.out _ (hu.bel ?_)) ?_; (focus (repeat (first | exact Bel.refl _ | apply Bel.ext | apply Bel.alloc | apply Bel.drew | refine Bel.set ?_ (by first | (simp; done) | (simp [go_sem]; done) | omega) _))); rintro ee ww ⟨v0, g0, rfl, rfl, hown⟩))
    rw [← HR.out]
    refine RetRow.mk' rfl (by (repeat (first | exact Bel.refl _ | apply Bel.ext | apply Bel.alloc | apply Bel.drew | refine Bel.set ?_ (by first | (simp; done) | (simp [go_sem]; done) | omega) _)) : Bel _ _) ?_
    refine own_mono hown (bel_size ?_)
    (repeat (first | exact Bel.refl _ | apply Bel.ext | apply Bel.alloc | apply Bel.drew | refine Bel.set ?_ (by first | (simp; done) | (simp [go_sem]; done) | omega) _))
  all_goals
    clear h1 h2
    go_enter Try.func15, Try.ntmps15
    go_wp2_with (first | (go_at_call 55; refine Calls.mono (HV.out _ (hu.bel ?_)) ?_; (focus (repeat (first | exact Bel.refl _ | apply Bel.ext | apply Bel.alloc | apply Bel.drew))); rintro ee ww ⟨rfl, _, rfl⟩) | (go_at_call 56; refine Calls.mono (HT.out _) ?_; rintro ee ww ⟨rfl, rfl⟩))
    rw [← HR.out]
    exact RetRow.mk' rfl (by (repeat (first | exact Bel.refl _ | apply Bel.ext | apply Bel.alloc | apply Bel.drew | refine Bel.set ?_ (by first | (simp; done) | (simp [go_sem]; done) | omega) _)) : Bel _ _) (World.ownsRow_nil _ _ _ _)
end Go.Proofs.Ytknlkljflibjbaa
