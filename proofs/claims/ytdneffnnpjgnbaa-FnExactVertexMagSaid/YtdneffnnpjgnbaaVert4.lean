/- The magnitude of the vertex of a parabola through three points: what the program returns. -/
import Derived.Test.YtdneffnnpjgnbaaVert3
namespace Go.Proofs.Ytdneffnnpjgnbaa
open Go.RowKit

set_option maxRecDepth 100000 in
set_option maxHeartbeats 8000000 in
theorem VertexMag_c (aT aM bT bM cT cM : Int) (w : World) :
    Calls Try.prog 21 #[.agg #[.int .i64 aT, .int .i64 aM], .agg #[.int .i64 bT, .int .i64 bM], .agg #[.int .i64 cT, .int .i64 cM]] w (Ret (.tuple #[.int .i64 (vertI aT aM bT bM cT cM).1, .int .i64 (vertI aT aM bT bM cT cM).2]) w) := by
  refine hide_ret fun v H => ?_
  have HP := Lib.hid (fun w => parabolaOf_c aT aM bT bM cT cM w)
  unfold parI at HP
  unfold vertI at H
  by_cases h1 : curveB [(aT, aM), (bT, bM), (cT, cM)] = true
  rotate_left
  · have h1' : curveB [(aT, aM), (bT, bM), (cT, cM)] = false := by simpa using h1
    rw [h1'] at H HP
    simp only [if_true] at H HP
    clear h1 h1'
    go_enter Try.func21, Try.ntmps21
    go_wp2_with (first | (go_at_call 40; refine Calls.mono (HP.out _) ?_; rintro ee ww ⟨rfl, _, rfl⟩))
    go_ret2
    exact Ret.mk H.out (by (repeat (first | with_reducible exact Bel.refl _ | with_reducible assumption | with_reducible apply Bel.ext | with_reducible apply Bel.alloc | with_reducible apply Bel.drew | ((with_reducible refine Bel.set ?_ ?_ _); rotate_left; (focus (first | omega | (simp; done) | (simp [go_sem]; done) | (dsimp only; omega)))))) : Bel _ _)
  rw [h1] at H HP
  simp only [Bool.true_eq_false, if_false] at H HP
  obtain ⟨t0, t1, t2, t3, m0, m1, m2, m3, m4, m5⟩ := curve3 h1
  by_cases h2 : 100000 < cT - aT
  · rw [if_pos h2] at H HP
    clear h1
    go_enter Try.func21, Try.ntmps21
    go_wp2_with (first | (go_at_call 40; refine Calls.mono (HP.out _) ?_; rintro ee ww ⟨rfl, _, rfl⟩))
    go_ret2
    exact Ret.mk H.out (by (repeat (first | with_reducible exact Bel.refl _ | with_reducible assumption | with_reducible apply Bel.ext | with_reducible apply Bel.alloc | with_reducible apply Bel.drew | ((with_reducible refine Bel.set ?_ ?_ _); rotate_left; (focus (first | omega | (simp; done) | (simp [go_sem]; done) | (dsimp only; omega)))))) : Bel _ _)
  rw [if_neg h2] at H HP
  have hPB := curve3_PB h1 h2
  by_cases h3 : bendP aT aM bT bM cT cM = 0
  · rw [if_pos h3] at H HP
    clear h1 h3 hPB
    go_enter Try.func21, Try.ntmps21
    go_wp2_with (first | (go_at_call 40; refine Calls.mono (HP.out _) ?_; rintro ee ww ⟨rfl, _, rfl⟩))
    go_ret2
    exact Ret.mk H.out (by (repeat (first | with_reducible exact Bel.refl _ | with_reducible assumption | with_reducible apply Bel.ext | with_reducible apply Bel.alloc | with_reducible apply Bel.drew | ((with_reducible refine Bel.set ?_ ?_ _); rotate_left; (focus (first | omega | (simp; done) | (simp [go_sem]; done) | (dsimp only; omega)))))) : Bel _ _)
  rw [if_neg h3] at H HP
  have hU := unit_pos hPB h3
  have HL : Hid (∀ t, -50000 ≤ t → t ≤ 50000 → ∀ w, Calls Try.prog 41 #[.agg #[.int .i64 (bT - aT), .int .i64 (cT - aT), .int .i64 (bM - aM), .int .i64 (cM - aM)], .int .i64 t] w (Ret (.bool (decide (t ≤ topJ (sumI (bT - aT) (cT - aT) (bM - aM) (cM - aM)) (unitI (bT - aT) (cT - aT) (bM - aM) (cM - aM))))) w)) := Lib.hid (fun t h4 h5 w => by
    have h6 := lower_c (bT - aT) (cT - aT) (bM - aM) (cM - aM) t hPB h4 h5 h3 w
    rw [decide_eq_decide.2 (topJ_iff hU t)] at h6
    exact h6)
  clear h1 h3 hPB hU
  generalize topJ (sumI (bT - aT) (cT - aT) (bM - aM) (cM - aM)) (unitI (bT - aT) (cT - aT) (bM - aM) (cM - aM)) = J at *
  dsimp only at HP
  obtain ⟨pn, hpn⟩ : ∃ k, bT - aT = k := ⟨_, rfl⟩
  obtain ⟨pr, hpr⟩ : ∃ k, cT - aT = k := ⟨_, rfl⟩
  obtain ⟨pu, hpu⟩ : ∃ k, bM - aM = k := ⟨_, rfl⟩
  obtain ⟨pm, hpm⟩ : ∃ k, cM - aM = k := ⟨_, rfl⟩
  rw [hpn, hpr, hpu, hpm] at HP HL
  clear hpn hpr hpu hpm h2
  have HL0 := Lib.hid (HL.out (-2001 - aM) (by omega) (by omega))
  by_cases h4 : -2001 - aM ≤ J
  rotate_left
  · rw [decide_eq_false h4] at HL0
    have H2 := Lib.hid (H.out.symm.trans (by rw [show magB (aM + J) = false from by unfold magB; rw [inB_false]; omega, if_pos rfl] : _ = Value.tuple #[.int .i64 0, .int .i64 5]))
    clear H h4
    go_enter Try.func21, Try.ntmps21
    go_wp2_with (first | (go_at_call 40; refine Calls.mono (HP.out _) ?_; rintro ee ww ⟨rfl, _, rfl⟩) | (go_at_call 41; refine Calls.mono (HL0.out _) ?_; rintro ee ww ⟨rfl, _, rfl⟩))
    go_ret2
    exact Ret.mk H2.out.symm (by (repeat (first | with_reducible exact Bel.refl _ | with_reducible assumption | with_reducible apply Bel.ext | with_reducible apply Bel.alloc | with_reducible apply Bel.drew | ((with_reducible refine Bel.set ?_ ?_ _); rotate_left; (focus (first | omega | (simp; done) | (simp [go_sem]; done) | (dsimp only; omega)))))) : Bel _ _)
  rw [decide_eq_true h4] at HL0
  go_enter Try.func21, Try.ntmps21
  go_wp2_with (first | (go_at_call 40; refine Calls.mono (HP.out _) ?_; rintro ee ww ⟨rfl, gg, hww⟩; have hbw : Bel w ww := (by rw [hww]; (repeat (first | with_reducible exact Bel.refl _ | with_reducible assumption | apply Bel.ext | apply Bel.alloc | apply Bel.drew | exact Bel.refl _ | refine Bel.set ?_ (by first | (simp; done) | (simp [go_sem]; done) | omega) _))); have hcm : ww.cell? ⟨w.heap.size, 1, none⟩ = some (.int .i64 aM) := (by rw [hww]; simp [go_sem]); have hsz : w.heap.size < ww.heap.size := (by rw [hww]; exact Nat.lt_of_lt_of_le (by simp; omega) (ext_size _ _)); clear hww) | (go_at_call 41; refine Calls.mono (HL0.out _) ?_; rintro ee wz ⟨rfl, gz, hwz⟩; have hbz : Bel w wz := (by rw [hwz]; (repeat (first | with_reducible exact Bel.refl _ | with_reducible assumption | with_reducible apply Bel.ext | with_reducible apply Bel.alloc | with_reducible apply Bel.drew | ((with_reducible refine Bel.set ?_ ?_ _); rotate_left; (focus (first | omega | (simp; done) | (simp [go_sem]; done) | (dsimp only; omega))))))); have hsz2 : ww.heap.size < wz.heap.size := (by rw [hwz]; exact Nat.lt_of_lt_of_le (by simp) (ext_size _ _)); have hzm : wz.cell? ⟨w.heap.size, 1, none⟩ = some (.int .i64 aM) := (by rw [hwz]; simp [go_sem, *]; done); have hp0 : wz.cell? ⟨ww.heap.size, 0, none⟩ = some (.int .i64 pn) := (by rw [hwz]; simp [go_sem]; done); have hp1 : wz.cell? ⟨ww.heap.size, 1, none⟩ = some (.int .i64 pr) := (by rw [hwz]; simp [go_sem]; done); have hp2 : wz.cell? ⟨ww.heap.size, 2, none⟩ = some (.int .i64 pu) := (by rw [hwz]; simp [go_sem]; done); have hp3 : wz.cell? ⟨ww.heap.size, 3, none⟩ = some (.int .i64 pm) := (by rw [hwz]; simp [go_sem]; done); clear hwz))
  clear hcm hbw
  obtain ⟨B1, hB1⟩ : ∃ B1, ww.heap.size = B1 := ⟨_, rfl⟩
  obtain ⟨B0, hB0⟩ : ∃ B0, w.heap.size = B0 := ⟨_, rfl⟩
  rw [hB1] at hsz2 hp0 hp1 hp2 hp3 hsz
  rw [hB0] at hsz hzm
  rw [hB1, hB0]
  have HB0 := Lib.hid hB0
  clear hB1 hB0
  have hsz3 : B0 < wz.heap.size := by omega
  clear HL0
  go_loopw [10, 11] (fun l h wr => ∃ lo hi : Int, l = .int .i64 lo ∧ h = .int .i64 hi ∧ -2001 ≤ lo ∧ lo ≤ hi ∧ hi ≤ 20001 ∧ Bel wz wr ∧ Hid (lo - aM ≤ J ∧ (J ≤ hi - aM ∨ hi = 20001))) (fun l h _ => (intOf h - intOf l).toNat)
  case atStart => exact ⟨-2001, 20001, rfl, rfl, by omega, by omega, by omega, Bel.refl _, Lib.hid ⟨h4, .inr rfl⟩⟩
  case round =>
    obtain ⟨lo, hi, rfl, rfl, l0, lh, h5, hbel, hinv⟩ := hrel
    obtain ⟨g4, rfl⟩ := ext_ex hbel
    by_cases hlt : lo < hi
    · obtain ⟨M, hM⟩ : ∃ M, (lo + hi + 1) / 2 = M := ⟨_, rfl⟩
      have m1 : lo < M := by omega
      have m2 : M ≤ hi := by omega
      have HFD := Lib.hid (fun w => floorDiv_c (lo + hi + 1) 2 (by omega) (by omega) (by omega) w)
      rw [hM] at HFD
      clear hM
      have HLM := Lib.hid (HL.out (M - aM) (by omega) (by omega))
      by_cases hc : M - aM ≤ J
      · rw [decide_eq_true hc] at HLM
        have HI : Hid (M - aM ≤ J ∧ (J ≤ hi - aM ∨ hi = 20001)) := Lib.hid ⟨hc, hinv.out.2⟩
        clear hc hinv h4
        go_wp2_with (first | (go_at_call 42; refine Calls.mono (HFD.out _) ?_; rintro ee ww ⟨rfl, rfl⟩) | (go_at_call 41; refine Calls.mono (HLM.out _) ?_; rintro ee ww ⟨rfl, _, rfl⟩))
        go_roundw
        case rel => exact ⟨M, hi, rfl, rfl, by omega, m2, h5, by (repeat (first | with_reducible exact Bel.refl _ | with_reducible assumption | apply Bel.ext | apply Bel.alloc | apply Bel.drew | exact Bel.refl _ | refine Bel.set ?_ (by first | (simp; done) | (simp [go_sem]; done) | omega) _)), HI⟩
        case measure => simp only [intOf]; omega
      · rw [decide_eq_false hc] at HLM
        have HI : Hid (lo - aM ≤ J ∧ (J ≤ (M - 1) - aM ∨ M - 1 = 20001)) := Lib.hid ⟨hinv.out.1, .inl (by omega)⟩
        clear hc hinv h4
        go_wp2_with (first | (go_at_call 42; refine Calls.mono (HFD.out _) ?_; rintro ee ww ⟨rfl, rfl⟩) | (go_at_call 41; refine Calls.mono (HLM.out _) ?_; rintro ee ww ⟨rfl, _, rfl⟩))
        go_roundw
        case rel => exact ⟨lo, M - 1, rfl, rfl, l0, by omega, by omega, by (repeat (first | with_reducible exact Bel.refl _ | with_reducible assumption | apply Bel.ext | apply Bel.alloc | apply Bel.drew | exact Bel.refl _ | refine Bel.set ?_ (by first | (simp; done) | (simp [go_sem]; done) | omega) _)), HI⟩
        case measure => simp only [intOf]; omega
    · have e : lo = hi := by omega
      subst e
      have HV : Hid (v = .tuple #[.int .i64 (if magB lo = true then lo else 0), .int .i64 (if magB lo = true then 0 else 5)]) := Lib.hid (H.out.symm.trans (by
        have h9 := hinv.out
        by_cases h10 : magB lo = true
        · have h11 := magB_iff.1 h10
          have h12 : aM + J = lo := by omega
          rw [h12, if_neg (by simp [h10]), if_pos h10, if_pos h10]
        · have h11 : ¬ (-2000 ≤ lo ∧ lo ≤ 20000) := fun e => h10 (magB_iff.2 e)
          have h12 : magB (aM + J) = false := by unfold magB; rw [inB_false]; omega
          rw [if_pos h12, if_neg h10, if_neg h10]))
      have HM := Lib.hid (fun w => ValidMag_c lo w)
      clear hinv
      cases hm : magB lo <;> rw [hm] at HV HM <;> simp only [Bool.not_true, Bool.not_false, Bool.true_or, Bool.or_true, Bool.false_or, Bool.or_false, Bool.true_and, Bool.and_true, Bool.false_and, Bool.and_false, if_true, if_false, Bool.false_eq_true] at HV
      all_goals
        go_wp2_with (first | (go_at_call 43; refine Calls.mono (HM.out _) ?_; rintro ee ww ⟨rfl, rfl⟩))
        go_ret2
        refine Ret.mk HV.out.symm ?_
        exact Below.trans hbz (Below.mono (by (repeat (first | with_reducible exact Bel.refl _ | with_reducible assumption | apply Bel.ext | apply Bel.alloc | apply Bel.drew | exact Bel.refl _ | refine Bel.set ?_ (by first | (simp; done) | (simp [go_sem]; done) | omega) _)) : Bel wz _) hbz.size)
end Go.Proofs.Ytdneffnnpjgnbaa
