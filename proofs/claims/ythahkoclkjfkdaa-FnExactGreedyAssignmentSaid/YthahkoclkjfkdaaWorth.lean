/- Tables of worths: which are valid, in the program and in the reference. -/
import Derived.Test.YthahkoclkjfkdaaNest
import Derived.Test.YthahkoclkjfkdaaAllIn
import Derived.Test.YthahkoclkjfkdaaWorthPlain
namespace Go.Proofs.Ythahkoclkjfkdaa
open Go.RowKit

theorem rowB_def (n0 : Nat) (xs : List Int) : rowB n0 xs = (decide (1 ≤ xs.length) && decide (xs.length ≤ 8) && decide (xs.length = n0) && xs.all fun x => inB x 0 1000) := rfl
theorem wid_of {xss : List (List Int)} {xs : List Int} (h : xss[0]? = some xs) : wid xss = xs.length := by unfold wid; simp [List.getD, h]
theorem all_drop {α : Type} {p : α → Bool} {xs : List α} {k : Nat} {x : α} (h : xs[k]? = some x) : (xs.drop k).all p = (p x && (xs.drop (k + 1)).all p) := by rw [drop_cons_of h]; rfl
theorem all_end {α : Type} {p : α → Bool} {xs : List α} {k : Nat} (h : xs.length ≤ k) : (xs.drop k).all p = true := by rw [List.drop_of_length_le h]; rfl
set_option maxHeartbeats 4000000 in
theorem ValidWorths_c (u : Value) (xss : List (List Int)) (w : World) (hu : RdN w u xss) :
    Calls Try.prog 15 #[u] w (Ret (.bool (worthsB xss)) w) := by
  refine hide_ret fun v H => ?_
  obtain ⟨a, n, c, rfl, hs⟩ := hu
  have hcap := hs.le; have hmax := hs.cap
  unfold maxLen at hmax
  have HL := Lib.hid hs.len
  unfold worthsB at H
  rw [← HL.out] at H
  by_cases g1 : n < 1
  · have g1z : (n : Int) < 1 := by omega
    go_enter Try.func15, Try.ntmps15
    go_wp2
    go_ret
    refine Ret.mk ?_ (?_ : Bel _ _)
    · rw [← H.out, decide_eq_false (by omega)]; rfl
    · (repeat (first | with_reducible exact Bel.refl _ | with_reducible assumption | apply Bel.ext | apply Bel.alloc | apply Bel.drew | exact Bel.refl _ | refine Bel.set ?_ (by first | (simp; done) | (simp [go_sem]; done) | omega) _))
  by_cases g2 : 6 < n
  · have g1z : ¬ (n : Int) < 1 := by omega
    have g2z : (6 : Int) < n := by omega
    go_enter Try.func15, Try.ntmps15
    go_wp2
    go_ret
    refine Ret.mk ?_ (?_ : Bel _ _)
    · rw [← H.out, decide_eq_false (show ¬ n ≤ 6 by omega)]; simp
    · (repeat (first | with_reducible exact Bel.refl _ | with_reducible assumption | apply Bel.ext | apply Bel.alloc | apply Bel.drew | exact Bel.refl _ | refine Bel.set ?_ (by first | (simp; done) | (simp [go_sem]; done) | omega) _))
  rw [decide_eq_true (show 1 ≤ n by omega), decide_eq_true (show n ≤ 6 by omega)] at H
  have g1z : ¬ (n : Int) < 1 := by omega
  have g2z : ¬ (6 : Int) < n := by omega
  obtain ⟨b, off, rfl, hb⟩ := hs.base (k := 0) (by omega)
  obtain ⟨a0, n0, c0, xs0, hx0, hd0, hs0⟩ := hs.row (k := 0) (by omega)
  rw [Nat.add_zero] at hd0
  have hl0 := hs0.len
  have hci0 := hs0.le; have hcm0 := hs0.cap
  unfold maxLen at hcm0
  rw [wid_of hx0.out, ← hl0] at H
  clear hl0
  have z0 : (0 : Int) < n := by omega
  go_enter Try.func15, Try.ntmps15
  go_wp2
  go_loopw [4, 15] (fun _ i wr => ∃ k : Nat, k ≤ n ∧ i = .int .i64 k ∧ (∃ g, wr = ext w g) ∧ Hid (v = .bool ((xss.drop k).all (rowB n0)))) (fun _ i _ => n - (intOf i).toNat)
  case atStart => exact ⟨0, Nat.zero_le _, rfl, ext_ex (Bel.refl _), Lib.hid H.out.symm⟩
  case round =>
    obtain ⟨k, hk, rfl, ⟨g, rfl⟩, hv⟩ := hrel
    by_cases hlt : k < n
    · obtain ⟨ai, ni, ci, xs, hx, hc0, hsi⟩ := hs.row hlt
      have hni := Lib.hid hsi.len; have hci := hsi.le; have hcm := hsi.cap
      unfold maxLen at hcm
      have HA := Lib.hid (fun x (hx : Bel w x) => allIn_c _ xs 0 1000 x (hsi.rd.bel hx))
      have hvv := hv.out
      rw [all_drop hx.out] at hvv
      rw [rowB_def] at hvv
      rw [← hni.out] at hvv
      clear hv
      by_cases q1 : ni < 1
      · have q1z : (ni : Int) < 1 := by omega
        rw [decide_eq_false (show ¬ 1 ≤ ni by omega)] at hvv
        have HV := Lib.hid hvv
        clear hvv
        go_wp2
        go_ret
        refine Ret.mk ?_ (?_ : Bel _ _)
        · rw [HV.out]; simp
        · (repeat (first | with_reducible exact Bel.refl _ | with_reducible assumption | apply Bel.ext | apply Bel.alloc | apply Bel.drew | exact Bel.refl _ | refine Bel.set ?_ (by first | (simp; done) | (simp [go_sem]; done) | omega) _))
      by_cases q2 : 8 < ni
      · have q1z : ¬ (ni : Int) < 1 := by omega
        have q2z : (8 : Int) < ni := by omega
        rw [decide_eq_false (show ¬ ni ≤ 8 by omega)] at hvv
        have HV := Lib.hid hvv
        clear hvv
        go_wp2
        go_ret
        refine Ret.mk ?_ (?_ : Bel _ _)
        · rw [HV.out]; simp
        · (repeat (first | with_reducible exact Bel.refl _ | with_reducible assumption | apply Bel.ext | apply Bel.alloc | apply Bel.drew | exact Bel.refl _ | refine Bel.set ?_ (by first | (simp; done) | (simp [go_sem]; done) | omega) _))
      have q1z : ¬ (ni : Int) < 1 := by omega
      have q2z : ¬ (8 : Int) < ni := by omega
      by_cases q3 : ni = n0
      · have q3z : ((ni : Int) != n0) = false := by simp [q3]
        rw [decide_eq_true (show 1 ≤ ni by omega), decide_eq_true (show ni ≤ 8 by omega), decide_eq_true q3] at hvv
        clear q3
        rcases hA : (xs.all fun x => inB x 0 1000) with _ | _
        · rw [hA] at hvv HA
          have HV := Lib.hid hvv
          clear hvv hA
          go_wp2_with (first | (go_at_call 40; refine Calls.mono (HA.out _ ?_) ?_; (focus (repeat (first | with_reducible exact Bel.refl _ | with_reducible assumption | apply Bel.ext | apply Bel.alloc | apply Bel.drew | exact Bel.refl _))); rintro ee ww ⟨rfl, _, rfl⟩))
          go_ret
          refine Ret.mk ?_ (?_ : Bel _ _)
          · rw [HV.out]; simp
          · (repeat (first | with_reducible exact Bel.refl _ | with_reducible assumption | apply Bel.ext | apply Bel.alloc | apply Bel.drew | exact Bel.refl _ | refine Bel.set ?_ (by first | (simp; done) | (simp [go_sem]; done) | omega) _))
        · rw [hA] at hvv HA
          have HV := Lib.hid hvv
          clear hvv hA
          go_wp2_with (first | (go_at_call 40; refine Calls.mono (HA.out _ ?_) ?_; (focus (repeat (first | with_reducible exact Bel.refl _ | with_reducible assumption | apply Bel.ext | apply Bel.alloc | apply Bel.drew | exact Bel.refl _))); rintro ee ww ⟨rfl, _, rfl⟩))
          go_roundw
          case rel =>
            refine ⟨k + 1, by omega, by go_num, ext_ex (by (repeat (first | with_reducible exact Bel.refl _ | with_reducible assumption | apply Bel.ext | apply Bel.alloc | apply Bel.drew | exact Bel.refl _ | refine Bel.set ?_ (by first | (simp; done) | (simp [go_sem]; done) | omega) _)) : Bel _ _), Lib.hid ?_⟩
            rw [HV.out]; simp
          case measure => simp [intOf]; omega
      · have q3z : ((ni : Int) != n0) = true := by simp; omega
        rw [decide_eq_false q3] at hvv
        have HV := Lib.hid hvv
        clear hvv q3
        go_wp2
        go_ret
        refine Ret.mk ?_ (?_ : Bel _ _)
        · rw [HV.out]; simp
        · (repeat (first | with_reducible exact Bel.refl _ | with_reducible assumption | apply Bel.ext | apply Bel.alloc | apply Bel.drew | exact Bel.refl _ | refine Bel.set ?_ (by first | (simp; done) | (simp [go_sem]; done) | omega) _))
    · have hvv := hv.out
      rw [all_end (by rw [← HL.out]; omega)] at hvv
      have HV := Lib.hid hvv
      clear hvv hv
      go_wp2
      go_ret
      refine Ret.mk ?_ (?_ : Bel _ _)
      · exact HV.out.symm
      · (repeat (first | with_reducible exact Bel.refl _ | with_reducible assumption | apply Bel.ext | apply Bel.alloc | apply Bel.drew | exact Bel.refl _ | refine Bel.set ?_ (by first | (simp; done) | (simp [go_sem]; done) | omega) _))
set_option maxHeartbeats 4000000 in
theorem l17Ok_c (u : Value) (xss : List (List Int)) (w : World) (hu : RdN w u xss) :
    Calls Try.prog 39 #[u] w (Ret (.bool (worthsB xss)) w) := by
  refine hide_ret fun v H => ?_
  obtain ⟨a, n, c, rfl, hs⟩ := hu
  have hcap := hs.le; have hmax := hs.cap
  unfold maxLen at hmax
  have HL := Lib.hid hs.len
  unfold worthsB at H
  rw [← HL.out] at H
  have wn : IntKind.i64.wrap (n : Int) = (n : Int) := IntWalk.i64_in _ (by omega)
  have HQ := Lib.hid (fun w => l00In_c (n : Int) 1 6 w)
  rw [show (decide (1 ≤ n) && decide (n ≤ 6)) = inB (n : Int) 1 6 by unfold inB; congr 1 <;> rw [decide_eq_decide] <;> omega] at H
  generalize inB (n : Int) 1 6 = r at *
  go_enter Try.func39, Try.ntmps39
  go_wp2
  go_loopw [3, 4] (fun i _ wr => ∃ k : Nat, k ≤ n ∧ i = .int .i64 k ∧ (∃ g, wr = ext w g) ∧ Hid (v = .bool (r && (xss.drop k).all (rowB (wid xss))))) (fun i _ _ => n - (intOf i).toNat)
  case atStart => exact ⟨0, Nat.zero_le _, rfl, ext_ex (Bel.refl _), Lib.hid H.out.symm⟩
  case round =>
    obtain ⟨k, hk, rfl, ⟨g, rfl⟩, hv⟩ := hrel
    by_cases hlt : k < n
    · obtain ⟨b, off, rfl, hb⟩ := hs.base (k := 0) (by omega)
      obtain ⟨a0, n0, c0, xs0, hx0, hd0, hs0⟩ := hs.row (k := 0) (by omega)
      rw [Nat.add_zero] at hd0
      have hl0 := hs0.len
      have hci0 := hs0.le; have hcm0 := hs0.cap
      unfold maxLen at hcm0
      obtain ⟨ai, ni, ci, xs, hx, hc0, hsi⟩ := hs.row hlt
      have hni := Lib.hid hsi.len; have hci := hsi.le; have hcm := hsi.cap
      unfold maxLen at hcm
      have wi : IntKind.i64.wrap (ni : Int) = (ni : Int) := IntWalk.i64_in _ (by omega)
      have z0 : (0 : Int) < n := by omega
      have z1 : (0 : Int) ≤ k := by omega
      have z2 : (k : Int) < n := by omega
      have hvv := hv.out
      rw [all_drop hx.out] at hvv
      rw [rowB_def] at hvv
      rw [wid_of hx0.out, ← hl0, ← hni.out] at hvv
      clear hv hl0
      have HW := Lib.hid (wid_of hx0.out)
      by_cases q3 : ni = n0
      case neg =>
        have q3z : ((ni : Int) != n0) = true := by simp; omega
        rw [decide_eq_false q3] at hvv
        have HV := Lib.hid hvv
        clear hvv q3
        go_wp2_with fail
        refine region_ext (by kernel_rfl) (by kernel_rfl) ?_
        repeat (go_big_quiet_step (fail))
        refine wpQuiet_nil ?_
        rintro _ ⟨_, rfl⟩
        go_wp2
        go_ret
        refine Ret.mk ?_ (?_ : Bel _ _)
        · rw [HV.out]; simp
        · (repeat (first | with_reducible exact Bel.refl _ | with_reducible assumption | apply Bel.ext | apply Bel.alloc | apply Bel.drew | exact Bel.refl _ | refine Bel.set ?_ (by first | (simp; done) | (simp [go_sem]; done) | omega) _))
      have q3z : ((ni : Int) != n0) = false := by simp [q3]
      rw [decide_eq_true q3] at hvv
      have HN := Lib.hid (fun w => l00In_c (ni : Int) 1 8 w)
      rw [show (decide (1 ≤ ni) && decide (ni ≤ 8)) = inB (ni : Int) 1 8 by unfold inB; congr 1 <;> rw [decide_eq_decide] <;> omega] at hvv
      rcases hB : inB (ni : Int) 1 8 with _ | _
      · rw [hB] at hvv HN
        have HV := Lib.hid hvv
        clear hvv q3 hB
        go_wp2_with fail
        refine region_ext (by kernel_rfl) (by kernel_rfl) ?_
        repeat (go_big_quiet_step (first | (go_at_call 42; exact Calls.in_same (HN.out _))))
        refine wpQuiet_nil ?_
        rintro _ ⟨_, rfl⟩
        go_wp2
        go_ret
        refine Ret.mk ?_ (?_ : Bel _ _)
        · rw [HV.out]; simp
        · (repeat (first | with_reducible exact Bel.refl _ | with_reducible assumption | apply Bel.ext | apply Bel.alloc | apply Bel.drew | exact Bel.refl _ | refine Bel.set ?_ (by first | (simp; done) | (simp [go_sem]; done) | omega) _))
      rw [hB] at hvv HN
      have HV := Lib.hid hvv
      clear hvv q3 hB
      go_wp2_with fail
      refine region_ext (by kernel_rfl) (by kernel_rfl) ?_
      repeat (go_big_quiet_step (first | (go_at_call 42; exact Calls.in_same (HN.out _))))
      refine wpQuiet_nil ?_
      rintro _ ⟨_, rfl⟩
      go_wp2
      go_loopw [4] (fun i wr => ∃ j : Nat, j ≤ ni ∧ i = .int .i64 j ∧ (∃ g, wr = ext w g) ∧ Hid (v = .bool (r && ((xs.drop j).all (fun x => inB x 0 1000) && (xss.drop (k + 1)).all (rowB n0))))) (fun i _ => ni - (intOf i).toNat)
      case atStart => exact ⟨0, Nat.zero_le _, rfl, ext_ex (by (repeat (first | with_reducible exact Bel.refl _ | with_reducible assumption | apply Bel.ext | apply Bel.alloc | apply Bel.drew | exact Bel.refl _ | refine Bel.set ?_ (by first | (simp; done) | (simp [go_sem]; done) | omega) _)) : Bel _ _), Lib.hid (by rw [HV.out]; simp)⟩
      case round =>
        obtain ⟨j, hj, rfl, ⟨g2, rfl⟩, hv2⟩ := hrel
        by_cases hlt2 : j < ni
        · obtain ⟨bi, oi, rfl, hbi⟩ := hsi.base hlt2
          obtain ⟨x, hxx, hcx⟩ := hsi.at1 hlt2
          have HX := Lib.hid (fun w => l00In_c x 0 1000 w)
          have y1 : (0 : Int) ≤ j := by omega
          have y2 : (j : Int) < ni := by omega
          have hvv := hv2.out
          rw [all_drop hxx.out] at hvv
          clear hv2
          rcases hI : inB x 0 1000 with _ | _
          · rw [hI] at hvv HX
            have HV2 := Lib.hid hvv
            clear hvv hI
            go_wp2_with (first | (go_at_call 42; refine Calls.mono (HX.out _) ?_; rintro ee ww ⟨rfl, rfl⟩))
            go_ret
            refine Ret.mk ?_ (?_ : Bel _ _)
            · rw [HV2.out]; simp
            · (repeat (first | with_reducible exact Bel.refl _ | with_reducible assumption | apply Bel.ext | apply Bel.alloc | apply Bel.drew | exact Bel.refl _ | refine Bel.set ?_ (by first | (simp; done) | (simp [go_sem]; done) | omega) _))
          · rw [hI] at hvv HX
            have HV2 := Lib.hid hvv
            clear hvv hI
            go_wp2_with (first | (go_at_call 42; refine Calls.mono (HX.out _) ?_; rintro ee ww ⟨rfl, rfl⟩))
            go_roundw
            case rel =>
              refine ⟨j + 1, by omega, by go_num, ext_ex (by (repeat (first | with_reducible exact Bel.refl _ | with_reducible assumption | apply Bel.ext | apply Bel.alloc | apply Bel.drew | exact Bel.refl _ | refine Bel.set ?_ (by first | (simp; done) | (simp [go_sem]; done) | omega) _)) : Bel _ _), Lib.hid ?_⟩
              rw [HV2.out]; simp
            case measure => simp [intOf]; omega
        · have hvv := hv2.out
          rw [all_end (by rw [← hni.out]; omega)] at hvv
          have HV2 := Lib.hid hvv
          clear hvv hv2
          go_wp2
          go_roundw
          case rel =>
            refine ⟨k + 1, by omega, by go_num, ext_ex (by (repeat (first | with_reducible exact Bel.refl _ | with_reducible assumption | apply Bel.ext | apply Bel.alloc | apply Bel.drew | exact Bel.refl _ | refine Bel.set ?_ (by first | (simp; done) | (simp [go_sem]; done) | omega) _)) : Bel _ _), Lib.hid ?_⟩
            rw [HV2.out, HW.out, ← hs0.len]; simp
          case measure => simp [intOf]; omega
    · have hvv := hv.out
      rw [all_end (by rw [← HL.out]; omega)] at hvv
      have HV := Lib.hid hvv
      clear hvv hv
      go_wp2_with (first | (go_at_call 42; refine Calls.mono (HQ.out _) ?_; rintro ee ww ⟨rfl, rfl⟩))
      go_ret
      refine Ret.mk ?_ (?_ : Bel _ _)
      · rw [HV.out]; simp
      · (repeat (first | with_reducible exact Bel.refl _ | with_reducible assumption | apply Bel.ext | apply Bel.alloc | apply Bel.drew | exact Bel.refl _ | refine Bel.set ?_ (by first | (simp; done) | (simp [go_sem]; done) | omega) _))
set_option maxHeartbeats 400000 in
theorem sValidWorths_c (u : Value) (xss : List (List Int)) (w : World) (hu : RdN w u xss) :
    Calls Try.prog 13 #[u] w (Ret (.bool (worthsB xss)) w) := by
  refine hide_ret fun v H => ?_
  have HV := Lib.hid (fun w hu => l17Ok_c u xss w hu)
  generalize worthsB xss = r at *
  go_enter Try.func13, Try.ntmps13
  go_wp2_with (first | (go_at_call 39; refine Calls.mono (HV.out _ (hu.bel ?_)) ?_; (focus (repeat (first | with_reducible exact Bel.refl _ | with_reducible assumption | apply Bel.ext | apply Bel.alloc | apply Bel.drew | exact Bel.refl _))); rintro ee ww ⟨rfl, _, rfl⟩))
  go_ret
  refine Ret.mk ?_ (?_ : Bel _ _)
  · exact H.out
  · (repeat (first | with_reducible exact Bel.refl _ | with_reducible assumption | apply Bel.ext | apply Bel.alloc | apply Bel.drew | exact Bel.refl _ | refine Bel.set ?_ (by first | (simp; done) | (simp [go_sem]; done) | omega) _))
end Go.Proofs.Ythahkoclkjfkdaa
