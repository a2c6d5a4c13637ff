/- Whether prices prove a worth: both sides. -/
import Derived.Test.YthahkoclkjfkdaaProve
namespace Go.Proofs.Ythahkoclkjfkdaa
open Go.RowKit

set_option maxRecDepth 100000 in
set_option maxHeartbeats 2000000 in
theorem ProvesWorth_c (u : Value) (ws : List (List Int)) (u1 : Value) (os : List Int) (u2 : Value) (ss : List Int) (t : Int) (w : World) (hu : RdN w u ws) (hu1 : Rd celI w u1 os) (hu2 : Rd celI w u2 ss) :
    Calls Try.prog 19 #[u, u1, u2, .int .i64 t] w (Ret (.tuple #[.bool (proveI ws os ss t).1, .int .i64 (proveI ws os ss t).2]) w) := by
  refine hide_ret fun v H => ?_
  have HV := Lib.hid (fun w hu => ValidWorths_c u ws w hu)
  have HA1 := Lib.hid (fun w hu => allIn_c u1 os 0 1000000 w hu)
  have HA2 := Lib.hid (fun w hu => allIn_c u2 ss 0 1000000 w hu)
  have HT := Lib.hid (fun w => in_c t 0 1000000 w)
  have hfine := worthsB_fine (xss := ws)
  have hp1 := price_mem (xs := os); have hp2 := price_mem (xs := ss)
  unfold proveI at H
  have hu' := hu; have hu1' := hu1; have hu2' := hu2
  obtain ⟨a, n, c, rfl, hs⟩ := hu
  obtain ⟨a1, n1, c1, rfl, hs1⟩ := hu1.sl
  obtain ⟨a2, n2, c2, rfl, hs2⟩ := hu2.sl
  have hcap := hs.le; have hmax := hs.cap
  have hcap1 := hs1.le; have hmax1 := hs1.cap
  have hcap2 := hs2.le; have hmax2 := hs2.cap
  unfold maxLen at hmax hmax1 hmax2
  have HL := Lib.hid hs.len
  have HL1 := Lib.hid hs1.len
  have HL2 := Lib.hid hs2.len
  rw [← HL.out, ← HL1.out, ← HL2.out] at H
  rcases h1 : worthsB ws with _ | _
  · rw [h1] at H HV
    have H2 := Lib.hid H.out
    clear h1 hfine hp1 hp2
    go_enter Try.func19, Try.ntmps19
    go_wp2_with (first | (go_at_call 15; refine Calls.mono (HV.out _ (hu'.bel ?_)) ?_; (focus (repeat (first | with_reducible exact Bel.refl _ | apply Bel.ext | apply Bel.alloc | apply Bel.drew | exact Bel.refl _))); rintro ee ww ⟨rfl, _, rfl⟩))
    go_ret2
    refine Ret.mk ?_ (?_ : Bel _ _)
    · rw [← H2.out]; simp
    · (repeat (first | with_reducible exact Bel.refl _ | apply Bel.ext | apply Bel.alloc | apply Bel.drew | exact Bel.refl _ | refine Bel.set ?_ (by first | (simp; done) | (simp [go_sem]; done) | omega) _))
  obtain ⟨f1, f2, f3, f4, f5⟩ := hfine h1
  rw [← HL.out] at f1 f2
  rw [h1] at H HV
  obtain ⟨b, off, rfl, hb⟩ := hs.base (k := 0) (by omega)
  obtain ⟨a0, n0, c0, xs0, hx0, hd0, hs0⟩ := hs.row (k := 0) (by omega)
  rw [Nat.add_zero] at hd0
  have hl0 := hs0.len
  have hci0 := hs0.le; have hcm0 := hs0.cap
  unfold maxLen at hcm0
  rw [wid_of hx0.out, ← hl0] at H f3 f4 f5
  clear hl0 h1 hfine
  have z0 : (0 : Int) < n := by omega
  unfold priceB at H
  rcases g1 : (os.all fun x => inB x 0 1000000) with _ | _ <;> rcases g2 : (ss.all fun x => inB x 0 1000000) with _ | _ <;> rcases g3 : inB t 0 1000000 with _ | _ <;> simp only [g1, g2, g3, Bool.not_true, Bool.not_false, Bool.true_or, Bool.or_true, Bool.false_or, Bool.or_false, Bool.true_and, Bool.and_true, Bool.false_and, Bool.and_false, if_true, if_false, Bool.false_eq_true] at H HA1 HA2 HT
  case true.true.true =>
    by_cases q1 : n1 = n
    case neg =>
      have q1z : ((n1 : Int) != n) = true := by simp; omega
      rw [decide_eq_false q1] at H
      clear g1 g2 g3 hp1 hp2 f5
      go_enter Try.func19, Try.ntmps19
      go_wp2_with (first | (go_at_call 15; refine Calls.mono (HV.out _ (hu'.bel ?_)) ?_; (focus (repeat (first | with_reducible exact Bel.refl _ | apply Bel.ext | apply Bel.alloc | apply Bel.drew | exact Bel.refl _))); rintro ee ww ⟨rfl, _, rfl⟩) | (go_at_call 40; refine args_is3 (.slice a1 n1 c1) (by with_reducible rfl) ?_; refine Calls.mono (HA1.out _ (hu1'.bel ?_)) ?_; (focus (repeat (first | with_reducible exact Bel.refl _ | apply Bel.ext | apply Bel.alloc | apply Bel.drew | exact Bel.refl _))); rintro ee ww ⟨rfl, _, rfl⟩) | (go_at_call 40; refine args_is3 (.slice a2 n2 c2) (by with_reducible rfl) ?_; refine Calls.mono (HA2.out _ (hu2'.bel ?_)) ?_; (focus (repeat (first | with_reducible exact Bel.refl _ | apply Bel.ext | apply Bel.alloc | apply Bel.drew | exact Bel.refl _))); rintro ee ww ⟨rfl, _, rfl⟩) | (go_at_call 44; refine Calls.mono (HT.out _) ?_; rintro ee ww ⟨rfl, rfl⟩))
      go_ret2
      refine Ret.mk ?_ (?_ : Bel _ _)
      · rw [← H.out]; simp
      · (repeat (first | with_reducible exact Bel.refl _ | apply Bel.ext | apply Bel.alloc | apply Bel.drew | exact Bel.refl _ | refine Bel.set ?_ (by first | (simp; done) | (simp [go_sem]; done) | omega) _))
    subst q1
    by_cases q2 : n2 = n0
    case neg =>
      have q1z : ((n1 : Int) != n1) = false := by simp
      have q2z : ((n2 : Int) != n0) = true := by simp; omega
      rw [decide_eq_false q2] at H
      clear g1 g2 g3 hp1 hp2 f5
      go_enter Try.func19, Try.ntmps19
      go_wp2_with (first | (go_at_call 15; refine Calls.mono (HV.out _ (hu'.bel ?_)) ?_; (focus (repeat (first | with_reducible exact Bel.refl _ | apply Bel.ext | apply Bel.alloc | apply Bel.drew | exact Bel.refl _))); rintro ee ww ⟨rfl, _, rfl⟩) | (go_at_call 40; refine args_is3 (.slice a1 n1 c1) (by with_reducible rfl) ?_; refine Calls.mono (HA1.out _ (hu1'.bel ?_)) ?_; (focus (repeat (first | with_reducible exact Bel.refl _ | apply Bel.ext | apply Bel.alloc | apply Bel.drew | exact Bel.refl _))); rintro ee ww ⟨rfl, _, rfl⟩) | (go_at_call 40; refine args_is3 (.slice a2 n2 c2) (by with_reducible rfl) ?_; refine Calls.mono (HA2.out _ (hu2'.bel ?_)) ?_; (focus (repeat (first | with_reducible exact Bel.refl _ | apply Bel.ext | apply Bel.alloc | apply Bel.drew | exact Bel.refl _))); rintro ee ww ⟨rfl, _, rfl⟩) | (go_at_call 44; refine Calls.mono (HT.out _) ?_; rintro ee ww ⟨rfl, rfl⟩))
      go_ret2
      refine Ret.mk ?_ (?_ : Bel _ _)
      · rw [← H.out]; simp
      · (repeat (first | with_reducible exact Bel.refl _ | apply Bel.ext | apply Bel.alloc | apply Bel.drew | exact Bel.refl _ | refine Bel.set ?_ (by first | (simp; done) | (simp [go_sem]; done) | omega) _))
    subst q2
    have q1z : ((n1 : Int) != n1) = false := by simp
    have q2z : ((n2 : Int) != n2) = false := by simp
    have p1 := hp1 g1
    have p2 := hp2 g2
    simp only [decide_true, Bool.true_and, Bool.not_true, Bool.false_eq_true, if_false] at H
    clear g1 g2 g3 hp1 hp2
    have HS1 := Lib.hid (fun w hu => sum_c _ os p1 (by rw [← HL1.out]; omega) w (hu : Rd celI w (.slice a1 n1 c1) os))
    have HS2 := Lib.hid (fun w hu => sum_c _ ss p2 (by rw [← HL2.out]; omega) w (hu : Rd celI w (.slice a2 n2 c2) ss))
    obtain ⟨s1, s2⟩ := sum_bd p1
    obtain ⟨s3, s4⟩ := sum_bd p2
    rw [← HL1.out] at s2
    rw [← HL2.out] at s4
    generalize os.sum = S1 at *
    generalize ss.sum = S2 at *
    go_enter Try.func19, Try.ntmps19
    go_wp2_with (first | (go_at_call 15; refine Calls.mono (HV.out _ (hu'.bel ?_)) ?_; (focus (repeat (first | with_reducible exact Bel.refl _ | apply Bel.ext | apply Bel.alloc | apply Bel.drew | exact Bel.refl _))); rintro ee ww ⟨rfl, _, rfl⟩) | (go_at_call 40; refine args_is3 (.slice a1 n1 c1) (by with_reducible rfl) ?_; refine Calls.mono (HA1.out _ (hu1'.bel ?_)) ?_; (focus (repeat (first | with_reducible exact Bel.refl _ | apply Bel.ext | apply Bel.alloc | apply Bel.drew | exact Bel.refl _))); rintro ee ww ⟨rfl, _, rfl⟩) | (go_at_call 40; refine args_is3 (.slice a2 n2 c2) (by with_reducible rfl) ?_; refine Calls.mono (HA2.out _ (hu2'.bel ?_)) ?_; (focus (repeat (first | with_reducible exact Bel.refl _ | apply Bel.ext | apply Bel.alloc | apply Bel.drew | exact Bel.refl _))); rintro ee ww ⟨rfl, _, rfl⟩) | (go_at_call 44; refine Calls.mono (HT.out _) ?_; rintro ee ww ⟨rfl, rfl⟩))
    go_loopw [11, 12, 13, 14, 48] (fun _ _ _ _ i wr => ∃ k : Nat, k ≤ n1 ∧ i = .int .i64 k ∧ (∃ g, wr = ext w g) ∧ Hid (v = .tuple #[.bool (covA os ss k (ws.drop k) && decide (S1 + S2 ≤ t)), .int .i64 0])) (fun _ _ _ _ i _ => n1 - (intOf i).toNat)
    case atStart => exact ⟨0, Nat.zero_le _, rfl, ext_ex (by (repeat (first | with_reducible exact Bel.refl _ | apply Bel.ext | apply Bel.alloc | apply Bel.drew | exact Bel.refl _ | refine Bel.set ?_ (by first | (simp; done) | (simp [go_sem]; done) | omega) _)) : Bel _ _), Lib.hid (by rw [← H.out]; simp only [List.drop_zero]; rcases covA os ss 0 ws with _ | _ <;> simp)⟩
    case round =>
      obtain ⟨k, hk, rfl, ⟨g, rfl⟩, hv⟩ := hrel
      by_cases hlt : k < n1
      · obtain ⟨ai, ni, ci, xs, hx, hc0, hsi⟩ := hs.row hlt
        obtain ⟨b1, off1, rfl, hb1⟩ := hs1.base hlt
        obtain ⟨o, ho, hco⟩ := hs1.at1 hlt
        have hci := hsi.le; have hcm := hsi.cap
        unfold maxLen at hcm
        obtain ⟨e1, e2⟩ := f5 xs (List.mem_of_getElem? hx.out)
        have hni : ni = n2 := by rw [hsi.len, e1]
        subst hni
        obtain ⟨o1, o2⟩ := p1 o (List.mem_of_getElem? ho.out)
        have hvv := hv.out
        rw [covA_at hx.out ho.out] at hvv
        have HV0 := Lib.hid hvv
        have z1 : (0 : Int) ≤ k := by omega
        have z2 : (k : Int) < n1 := by omega
        have P2 := Lib.hid p2
        have E2 := Lib.hid e2
        have E1 := Lib.hid e1
        have F5 := Lib.hid f5
        have P1 := Lib.hid p1
        clear hvv hv p2 e2 e1 f5 p1
        go_wp2
        go_loopw [13, 14, 55] (fun _ _ i wr => ∃ j : Nat, j ≤ ni ∧ i = .int .i64 j ∧ (∃ g, wr = ext w g) ∧ Hid (v = .tuple #[.bool (covR o ss j (xs.drop j) && covA os ss (k + 1) (ws.drop (k + 1)) && decide (S1 + S2 ≤ t)), .int .i64 0])) (fun _ _ i _ => ni - (intOf i).toNat)
        case atStart => exact ⟨0, Nat.zero_le _, rfl, ext_ex (by (repeat (first | with_reducible exact Bel.refl _ | apply Bel.ext | apply Bel.alloc | apply Bel.drew | exact Bel.refl _ | refine Bel.set ?_ (by first | (simp; done) | (simp [go_sem]; done) | omega) _)) : Bel _ _), Lib.hid (by rw [HV0.out]; simp)⟩
        case round =>
          obtain ⟨j, hj, rfl, ⟨g2, rfl⟩, hv2⟩ := hrel
          by_cases hlt2 : j < ni
          · obtain ⟨bi, oi, rfl, hbi⟩ := hsi.base hlt2
            obtain ⟨b2, off2, rfl, hb2⟩ := hs2.base hlt2
            obtain ⟨x, hxx, hcx⟩ := hsi.at1 hlt2
            obtain ⟨s, hss, hcs⟩ := hs2.at1 hlt2
            obtain ⟨y1, y2⟩ := P2.out s (List.mem_of_getElem? hss.out)
            have y3 : (0 : Int) ≤ j := by omega
            have y4 : (j : Int) < ni := by omega
            have w1 : IntKind.i64.wrap (o + s) = o + s := IntWalk.i64_in _ (by omega)
            have hvv := hv2.out
            rw [covR_at hxx.out hss.out] at hvv
            clear hv2
            by_cases q : o + s < x
            · rw [decide_eq_true q] at hvv
              have HV2 := Lib.hid hvv
              clear hvv
              go_wp2_with fail
              refine region_ext (by kernel_rfl) (by kernel_rfl) ?_
              repeat (go_big_quiet_step (fail))
              refine wpQuiet_nil ?_
              rintro _ ⟨_, rfl⟩
              go_wp2
              go_ret2
              refine Ret.mk ?_ (?_ : Bel _ _)
              · rw [HV2.out]; simp
              · (repeat (first | with_reducible exact Bel.refl _ | apply Bel.ext | apply Bel.alloc | apply Bel.drew | exact Bel.refl _ | refine Bel.set ?_ (by first | (simp; done) | (simp [go_sem]; done) | omega) _))
            · rw [decide_eq_false q] at hvv
              have HV2 := Lib.hid hvv
              clear hvv
              go_wp2_with fail
              refine region_ext (by kernel_rfl) (by kernel_rfl) ?_
              repeat (go_big_quiet_step (fail))
              refine wpQuiet_nil ?_
              rintro _ ⟨_, rfl⟩
              go_wp2
              go_roundw
              case rel =>
                refine ⟨j + 1, by omega, by go_num, ext_ex (by (repeat (first | with_reducible exact Bel.refl _ | apply Bel.ext | apply Bel.alloc | apply Bel.drew | exact Bel.refl _ | refine Bel.set ?_ (by first | (simp; done) | (simp [go_sem]; done) | omega) _)) : Bel _ _), Lib.hid ?_⟩
                rw [HV2.out]; simp
              case measure => simp [intOf]; omega
          · have hvv := hv2.out
            rw [covR_end (by rw [E1.out]; omega)] at hvv
            have HV2 := Lib.hid hvv
            clear hvv hv2
            go_wp2
            go_roundw
            case rel =>
              refine ⟨k + 1, by omega, by go_num, ext_ex (by (repeat (first | with_reducible exact Bel.refl _ | apply Bel.ext | apply Bel.alloc | apply Bel.drew | exact Bel.refl _ | refine Bel.set ?_ (by first | (simp; done) | (simp [go_sem]; done) | omega) _)) : Bel _ _), Lib.hid ?_⟩
              rw [HV2.out]; simp
            case measure => simp [intOf]; omega
      · have hvv := hv.out
        rw [covA_end (by rw [← HL.out]; omega)] at hvv
        have HV2 := Lib.hid hvv
        clear hvv hv
        have w1 : IntKind.i64.wrap (S1 + S2) = S1 + S2 := IntWalk.i64_in _ (by omega)
        go_wp2_with (first | (go_at_call 45; refine args_is1 (.slice a1 n1 c1) (by with_reducible rfl) ?_; refine Calls.mono (HS1.out _ (hu1'.bel ?_)) ?_; (focus (repeat (first | with_reducible exact Bel.refl _ | apply Bel.ext | apply Bel.alloc | apply Bel.drew | exact Bel.refl _))); rintro ee ww ⟨rfl, _, rfl⟩) | (go_at_call 45; refine args_is1 (.slice a2 n2 c2) (by with_reducible rfl) ?_; refine Calls.mono (HS2.out _ (hu2'.bel ?_)) ?_; (focus (repeat (first | with_reducible exact Bel.refl _ | apply Bel.ext | apply Bel.alloc | apply Bel.drew | exact Bel.refl _))); rintro ee ww ⟨rfl, _, rfl⟩))
        go_ret2
        refine Ret.mk ?_ (?_ : Bel _ _)
        · rw [HV2.out]; simp
        · (repeat (first | with_reducible exact Bel.refl _ | apply Bel.ext | apply Bel.alloc | apply Bel.drew | exact Bel.refl _ | refine Bel.set ?_ (by first | (simp; done) | (simp [go_sem]; done) | omega) _))
  all_goals
    clear g1 g2 g3 hp1 hp2 f5
    by_cases q1 : n1 = n <;> by_cases q2 : n2 = n0
    all_goals
      have q1z : ((n1 : Int) != n) = !decide (n1 = n) := by rw [Bool.eq_iff_iff]; simp; omega
      have q2z : ((n2 : Int) != n0) = !decide (n2 = n0) := by rw [Bool.eq_iff_iff]; simp; omega
      simp only [q1, q2, decide_true, decide_false, Bool.not_true, Bool.not_false] at q1z q2z H
      clear q1 q2
      go_enter Try.func19, Try.ntmps19
      go_wp2_with (first | (go_at_call 15; refine Calls.mono (HV.out _ (hu'.bel ?_)) ?_; (focus (repeat (first | with_reducible exact Bel.refl _ | apply Bel.ext | apply Bel.alloc | apply Bel.drew | exact Bel.refl _))); rintro ee ww ⟨rfl, _, rfl⟩) | (go_at_call 40; refine args_is3 (.slice a1 n1 c1) (by with_reducible rfl) ?_; refine Calls.mono (HA1.out _ (hu1'.bel ?_)) ?_; (focus (repeat (first | with_reducible exact Bel.refl _ | apply Bel.ext | apply Bel.alloc | apply Bel.drew | exact Bel.refl _))); rintro ee ww ⟨rfl, _, rfl⟩) | (go_at_call 40; refine args_is3 (.slice a2 n2 c2) (by with_reducible rfl) ?_; refine Calls.mono (HA2.out _ (hu2'.bel ?_)) ?_; (focus (repeat (first | with_reducible exact Bel.refl _ | apply Bel.ext | apply Bel.alloc | apply Bel.drew | exact Bel.refl _))); rintro ee ww ⟨rfl, _, rfl⟩) | (go_at_call 44; refine Calls.mono (HT.out _) ?_; rintro ee ww ⟨rfl, rfl⟩))
      all_goals go_ret2
      all_goals refine Ret.mk ?_ (?_ : Bel _ _)
      all_goals first | (rw [← H.out]; simp; done) | (repeat (first | with_reducible exact Bel.refl _ | apply Bel.ext | apply Bel.alloc | apply Bel.drew | exact Bel.refl _ | refine Bel.set ?_ (by first | (simp; done) | (simp [go_sem]; done) | omega) _))
set_option maxRecDepth 100000 in
set_option maxHeartbeats 2000000 in
theorem sProvesWorth_c (u : Value) (ws : List (List Int)) (u1 : Value) (os : List Int) (u2 : Value) (ss : List Int) (t : Int) (w : World) (hu : RdN w u ws) (hu1 : Rd celI w u1 os) (hu2 : Rd celI w u2 ss) :
    Calls Try.prog 17 #[u, u1, u2, .int .i64 t] w (Ret (.tuple #[.bool (proveI ws os ss t).1, .int .i64 (proveI ws os ss t).2]) w) := by
  refine hide_ret fun v H => ?_
  have HV := Lib.hid (fun w hu => l17Ok_c u ws w hu)
  have HA1 := Lib.hid (fun w hu => l17Prices_c u1 os w hu)
  have HA2 := Lib.hid (fun w hu => l17Prices_c u2 ss w hu)
  have HT := Lib.hid (fun w => l00In_c t 0 1000000 w)
  have hfine := worthsB_fine (xss := ws)
  have hp1 := price_mem (xs := os); have hp2 := price_mem (xs := ss)
  unfold proveI at H
  have hu' := hu; have hu1' := hu1; have hu2' := hu2
  obtain ⟨a, n, c, rfl, hs⟩ := hu
  obtain ⟨a1, n1, c1, rfl, hs1⟩ := hu1.sl
  obtain ⟨a2, n2, c2, rfl, hs2⟩ := hu2.sl
  have hcap := hs.le; have hmax := hs.cap
  have hcap1 := hs1.le; have hmax1 := hs1.cap
  have hcap2 := hs2.le; have hmax2 := hs2.cap
  unfold maxLen at hmax hmax1 hmax2
  have HL := Lib.hid hs.len
  have HL1 := Lib.hid hs1.len
  have HL2 := Lib.hid hs2.len
  rw [← HL.out, ← HL1.out, ← HL2.out] at H
  rcases h1 : worthsB ws with _ | _
  · rw [h1] at H HV
    have H2 := Lib.hid H.out
    clear h1 hfine hp1 hp2
    go_enter Try.func17, Try.ntmps17
    go_wp2_with (first | (go_at_call 39; refine Calls.mono (HV.out _ (hu'.bel ?_)) ?_; (focus (repeat (first | with_reducible exact Bel.refl _ | apply Bel.ext | apply Bel.alloc | apply Bel.drew | exact Bel.refl _))); rintro ee ww ⟨rfl, _, rfl⟩))
    go_ret2
    refine Ret.mk ?_ (?_ : Bel _ _)
    · rw [← H2.out]; simp
    · (repeat (first | with_reducible exact Bel.refl _ | apply Bel.ext | apply Bel.alloc | apply Bel.drew | exact Bel.refl _ | refine Bel.set ?_ (by first | (simp; done) | (simp [go_sem]; done) | omega) _))
  obtain ⟨f1, f2, f3, f4, f5⟩ := hfine h1
  rw [← HL.out] at f1 f2
  rw [h1] at H HV
  obtain ⟨b, off, rfl, hb⟩ := hs.base (k := 0) (by omega)
  obtain ⟨a0, n0, c0, xs0, hx0, hd0, hs0⟩ := hs.row (k := 0) (by omega)
  rw [Nat.add_zero] at hd0
  have hl0 := hs0.len
  have hci0 := hs0.le; have hcm0 := hs0.cap
  unfold maxLen at hcm0
  rw [wid_of hx0.out, ← hl0] at H f3 f4 f5
  clear hl0 h1 hfine
  have z0 : (0 : Int) < n := by omega
  rcases g1 : priceB os with _ | _ <;> rcases g2 : priceB ss with _ | _ <;> rcases g3 : inB t 0 1000000 with _ | _ <;> simp only [g1, g2, g3, Bool.not_true, Bool.not_false, Bool.true_or, Bool.or_true, Bool.false_or, Bool.or_false, Bool.true_and, Bool.and_true, Bool.false_and, Bool.and_false, if_true, if_false, Bool.false_eq_true] at H HA1 HA2 HT
  case true.true.true =>
    by_cases q1 : n1 = n
    case neg =>
      have q1z : ((n1 : Int) != n) = true := by simp; omega
      rw [decide_eq_false q1] at H
      clear g1 g2 g3 hp1 hp2 f5
      go_enter Try.func17, Try.ntmps17
      go_wp2_with (first | (go_at_call 39; refine Calls.mono (HV.out _ (hu'.bel ?_)) ?_; (focus (repeat (first | with_reducible exact Bel.refl _ | apply Bel.ext | apply Bel.alloc | apply Bel.drew | exact Bel.refl _))); rintro ee ww ⟨rfl, _, rfl⟩))
      go_ret2
      refine Ret.mk ?_ (?_ : Bel _ _)
      · rw [← H.out]; simp
      · (repeat (first | with_reducible exact Bel.refl _ | apply Bel.ext | apply Bel.alloc | apply Bel.drew | exact Bel.refl _ | refine Bel.set ?_ (by first | (simp; done) | (simp [go_sem]; done) | omega) _))
    subst q1
    by_cases q2 : n2 = n0
    case neg =>
      have q1z : ((n1 : Int) != n1) = false := by simp
      have q2z : ((n2 : Int) != n0) = true := by simp; omega
      rw [decide_eq_false q2] at H
      clear g1 g2 g3 hp1 hp2 f5
      go_enter Try.func17, Try.ntmps17
      go_wp2_with (first | (go_at_call 39; refine Calls.mono (HV.out _ (hu'.bel ?_)) ?_; (focus (repeat (first | with_reducible exact Bel.refl _ | apply Bel.ext | apply Bel.alloc | apply Bel.drew | exact Bel.refl _))); rintro ee ww ⟨rfl, _, rfl⟩))
      go_ret2
      refine Ret.mk ?_ (?_ : Bel _ _)
      · rw [← H.out]; simp
      · (repeat (first | with_reducible exact Bel.refl _ | apply Bel.ext | apply Bel.alloc | apply Bel.drew | exact Bel.refl _ | refine Bel.set ?_ (by first | (simp; done) | (simp [go_sem]; done) | omega) _))
    subst q2
    have q1z : ((n1 : Int) != n1) = false := by simp
    have q2z : ((n2 : Int) != n2) = false := by simp
    have p1 := hp1 g1
    have p2 := hp2 g2
    simp only [decide_true, Bool.true_and, Bool.not_true, Bool.false_eq_true, if_false] at H
    clear g1 g2 g3 hp1 hp2
    have HS1 := Lib.hid (fun w hu => l02Sum_c _ os p1 (by rw [← HL1.out]; omega) w (hu : Rd celI w (.slice a1 n1 c1) os))
    have HS2 := Lib.hid (fun w hu => l02Sum_c _ ss p2 (by rw [← HL2.out]; omega) w (hu : Rd celI w (.slice a2 n2 c2) ss))
    obtain ⟨s1, s2⟩ := sum_bd p1
    obtain ⟨s3, s4⟩ := sum_bd p2
    rw [← HL1.out] at s2
    rw [← HL2.out] at s4
    generalize os.sum = S1 at *
    generalize ss.sum = S2 at *
    have w1 : IntKind.i64.wrap (S1 + S2) = S1 + S2 := IntWalk.i64_in _ (by omega)
    go_enter Try.func17, Try.ntmps17
    go_wp2_with (first | (go_at_call 39; refine Calls.mono (HV.out _ (hu'.bel ?_)) ?_; (focus (repeat (first | with_reducible exact Bel.refl _ | apply Bel.ext | apply Bel.alloc | apply Bel.drew | exact Bel.refl _))); rintro ee ww ⟨rfl, _, rfl⟩) | (go_at_call 41; refine args_is1 (.slice a1 n1 c1) (by with_reducible rfl) ?_; refine Calls.mono (HA1.out _ (hu1'.bel ?_)) ?_; (focus (repeat (first | with_reducible exact Bel.refl _ | apply Bel.ext | apply Bel.alloc | apply Bel.drew | exact Bel.refl _))); rintro ee ww ⟨rfl, _, rfl⟩) | (go_at_call 41; refine args_is1 (.slice a2 n2 c2) (by with_reducible rfl) ?_; refine Calls.mono (HA2.out _ (hu2'.bel ?_)) ?_; (focus (repeat (first | with_reducible exact Bel.refl _ | apply Bel.ext | apply Bel.alloc | apply Bel.drew | exact Bel.refl _))); rintro ee ww ⟨rfl, _, rfl⟩) | (go_at_call 42; refine Calls.mono (HT.out _) ?_; rintro ee ww ⟨rfl, rfl⟩) | (go_at_call 43; refine args_is1 (.slice a1 n1 c1) (by with_reducible rfl) ?_; refine Calls.mono (HS1.out _ (hu1'.bel ?_)) ?_; (focus (repeat (first | with_reducible exact Bel.refl _ | apply Bel.ext | apply Bel.alloc | apply Bel.drew | exact Bel.refl _))); rintro ee ww ⟨rfl, _, rfl⟩) | (go_at_call 43; refine args_is1 (.slice a2 n2 c2) (by with_reducible rfl) ?_; refine Calls.mono (HS2.out _ (hu2'.bel ?_)) ?_; (focus (repeat (first | with_reducible exact Bel.refl _ | apply Bel.ext | apply Bel.alloc | apply Bel.drew | exact Bel.refl _))); rintro ee ww ⟨rfl, _, rfl⟩))
    go_loopw [11, 12] (fun i _ wr => ∃ k : Nat, k ≤ n1 ∧ i = .int .i64 k ∧ (∃ g, wr = ext w g) ∧ Hid (v = .tuple #[.bool (covA os ss k (ws.drop k) && decide (S1 + S2 ≤ t)), .int .i64 0])) (fun i _ _ => n1 - (intOf i).toNat)
    case atStart => exact ⟨0, Nat.zero_le _, rfl, ext_ex (by (repeat (first | with_reducible exact Bel.refl _ | apply Bel.ext | apply Bel.alloc | apply Bel.drew | exact Bel.refl _ | refine Bel.set ?_ (by first | (simp; done) | (simp [go_sem]; done) | omega) _)) : Bel _ _), Lib.hid (by rw [← H.out]; simp only [List.drop_zero]; rcases covA os ss 0 ws with _ | _ <;> simp)⟩
    case round =>
      obtain ⟨k, hk, rfl, ⟨g, rfl⟩, hv⟩ := hrel
      by_cases hlt : k < n1
      · obtain ⟨ai, ni, ci, xs, hx, hc0, hsi⟩ := hs.row hlt
        obtain ⟨b1, off1, rfl, hb1⟩ := hs1.base hlt
        obtain ⟨o, ho, hco⟩ := hs1.at1 hlt
        have hci := hsi.le; have hcm := hsi.cap
        unfold maxLen at hcm
        obtain ⟨e1, e2⟩ := f5 xs (List.mem_of_getElem? hx.out)
        have hni : ni = n2 := by rw [hsi.len, e1]
        subst hni
        obtain ⟨o1, o2⟩ := p1 o (List.mem_of_getElem? ho.out)
        have hvv := hv.out
        rw [covA_at hx.out ho.out] at hvv
        have HV0 := Lib.hid hvv
        have z1 : (0 : Int) ≤ k := by omega
        have z2 : (k : Int) < n1 := by omega
        have P2 := Lib.hid p2
        have E2 := Lib.hid e2
        have E1 := Lib.hid e1
        have F5 := Lib.hid f5
        have P1 := Lib.hid p1
        clear hvv hv p2 e2 e1 f5 p1
        go_wp2
        go_loopw [12] (fun i wr => ∃ j : Nat, j ≤ ni ∧ i = .int .i64 j ∧ (∃ g, wr = ext w g) ∧ Hid (v = .tuple #[.bool (covR o ss j (xs.drop j) && covA os ss (k + 1) (ws.drop (k + 1)) && decide (S1 + S2 ≤ t)), .int .i64 0])) (fun i _ => ni - (intOf i).toNat)
        case atStart => exact ⟨0, Nat.zero_le _, rfl, ext_ex (by (repeat (first | with_reducible exact Bel.refl _ | apply Bel.ext | apply Bel.alloc | apply Bel.drew | exact Bel.refl _ | refine Bel.set ?_ (by first | (simp; done) | (simp [go_sem]; done) | omega) _)) : Bel _ _), Lib.hid (by rw [HV0.out]; simp)⟩
        case round =>
          obtain ⟨j, hj, rfl, ⟨g2, rfl⟩, hv2⟩ := hrel
          by_cases hlt2 : j < ni
          · obtain ⟨bi, oi, rfl, hbi⟩ := hsi.base hlt2
            obtain ⟨b2, off2, rfl, hb2⟩ := hs2.base hlt2
            obtain ⟨x, hxx, hcx⟩ := hsi.at1 hlt2
            obtain ⟨s, hss, hcs⟩ := hs2.at1 hlt2
            obtain ⟨y1, y2⟩ := P2.out s (List.mem_of_getElem? hss.out)
            have y3 : (0 : Int) ≤ j := by omega
            have y4 : (j : Int) < ni := by omega
            have w2 : IntKind.i64.wrap (o + s) = o + s := IntWalk.i64_in _ (by omega)
            have hvv := hv2.out
            rw [covR_at hxx.out hss.out] at hvv
            clear hv2
            by_cases q : o + s < x
            · rw [decide_eq_true q] at hvv
              have HV2 := Lib.hid hvv
              clear hvv
              go_wp2_with fail
              refine region_ext (by kernel_rfl) (by kernel_rfl) ?_
              repeat (go_big_quiet_step (fail))
              refine wpQuiet_nil ?_
              rintro _ ⟨_, rfl⟩
              go_wp2
              go_ret2
              refine Ret.mk ?_ (?_ : Bel _ _)
              · rw [HV2.out]; simp
              · (repeat (first | with_reducible exact Bel.refl _ | apply Bel.ext | apply Bel.alloc | apply Bel.drew | exact Bel.refl _ | refine Bel.set ?_ (by first | (simp; done) | (simp [go_sem]; done) | omega) _))
            · rw [decide_eq_false q] at hvv
              have HV2 := Lib.hid hvv
              clear hvv
              go_wp2_with fail
              refine region_ext (by kernel_rfl) (by kernel_rfl) ?_
              repeat (go_big_quiet_step (fail))
              refine wpQuiet_nil ?_
              rintro _ ⟨_, rfl⟩
              go_wp2
              go_roundw
              case rel =>
                refine ⟨j + 1, by omega, by go_num, ext_ex (by (repeat (first | with_reducible exact Bel.refl _ | apply Bel.ext | apply Bel.alloc | apply Bel.drew | exact Bel.refl _ | refine Bel.set ?_ (by first | (simp; done) | (simp [go_sem]; done) | omega) _)) : Bel _ _), Lib.hid ?_⟩
                rw [HV2.out]; simp
              case measure => simp [intOf]; omega
          · have hvv := hv2.out
            rw [covR_end (by rw [E1.out]; omega)] at hvv
            have HV2 := Lib.hid hvv
            clear hvv hv2
            go_wp2
            go_roundw
            case rel =>
              refine ⟨k + 1, by omega, by go_num, ext_ex (by (repeat (first | with_reducible exact Bel.refl _ | apply Bel.ext | apply Bel.alloc | apply Bel.drew | exact Bel.refl _ | refine Bel.set ?_ (by first | (simp; done) | (simp [go_sem]; done) | omega) _)) : Bel _ _), Lib.hid ?_⟩
              rw [HV2.out]; simp
            case measure => simp [intOf]; omega
      · have hvv := hv.out
        rw [covA_end (by rw [← HL.out]; omega)] at hvv
        have HV2 := Lib.hid hvv
        clear hvv hv
        go_wp2
        go_ret2
        refine Ret.mk ?_ (?_ : Bel _ _)
        · rw [HV2.out]; simp
        · (repeat (first | with_reducible exact Bel.refl _ | apply Bel.ext | apply Bel.alloc | apply Bel.drew | exact Bel.refl _ | refine Bel.set ?_ (by first | (simp; done) | (simp [go_sem]; done) | omega) _))
  all_goals
    clear g1 g2 g3 hp1 hp2 f5
    by_cases q1 : n1 = n <;> by_cases q2 : n2 = n0
    all_goals
      have q1z : ((n1 : Int) != n) = !decide (n1 = n) := by rw [Bool.eq_iff_iff]; simp; omega
      have q2z : ((n2 : Int) != n0) = !decide (n2 = n0) := by rw [Bool.eq_iff_iff]; simp; omega
      simp only [q1, q2, decide_true, decide_false, Bool.not_true, Bool.not_false] at q1z q2z H
      clear q1 q2
      go_enter Try.func17, Try.ntmps17
      go_wp2_with (first | (go_at_call 39; refine Calls.mono (HV.out _ (hu'.bel ?_)) ?_; (focus (repeat (first | with_reducible exact Bel.refl _ | apply Bel.ext | apply Bel.alloc | apply Bel.drew | exact Bel.refl _))); rintro ee ww ⟨rfl, _, rfl⟩) | (go_at_call 41; refine args_is1 (.slice a1 n1 c1) (by with_reducible rfl) ?_; refine Calls.mono (HA1.out _ (hu1'.bel ?_)) ?_; (focus (repeat (first | with_reducible exact Bel.refl _ | apply Bel.ext | apply Bel.alloc | apply Bel.drew | exact Bel.refl _))); rintro ee ww ⟨rfl, _, rfl⟩) | (go_at_call 41; refine args_is1 (.slice a2 n2 c2) (by with_reducible rfl) ?_; refine Calls.mono (HA2.out _ (hu2'.bel ?_)) ?_; (focus (repeat (first | with_reducible exact Bel.refl _ | apply Bel.ext | apply Bel.alloc | apply Bel.drew | exact Bel.refl _))); rintro ee ww ⟨rfl, _, rfl⟩) | (go_at_call 42; refine Calls.mono (HT.out _) ?_; rintro ee ww ⟨rfl, rfl⟩))
      all_goals go_ret2
      all_goals refine Ret.mk ?_ (?_ : Bel _ _)
      all_goals first | (rw [← H.out]; simp; done) | (repeat (first | with_reducible exact Bel.refl _ | apply Bel.ext | apply Bel.alloc | apply Bel.drew | exact Bel.refl _ | refine Bel.set ?_ (by first | (simp; done) | (simp [go_sem]; done) | omega) _))
end Go.Proofs.Ythahkoclkjfkdaa
