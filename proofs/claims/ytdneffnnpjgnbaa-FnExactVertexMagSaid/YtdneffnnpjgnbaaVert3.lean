/- The magnitude of the vertex of a parabola through three points: what the program returns. -/
import Derived.Test.YtdneffnnpjgnbaaVert2
namespace Go.Proofs.Ytdneffnnpjgnbaa
open Go.RowKit

def bendP (aT aM bT bM cT cM : Int) : Int := bendI (bT - aT) (cT - aT) (bM - aM) (cM - aM)
def vertI (aT aM bT bM cT cM : Int) : Int × Int :=
  if curveB [(aT, aM), (bT, bM), (cT, cM)] = false then (0, 1) else if 100000 < cT - aT then (0, 2) else if bendP aT aM bT bM cT cM = 0 then (0, 6) else
    if magB (aM + topJ (sumI (bT - aT) (cT - aT) (bM - aM) (cM - aM)) (unitI (bT - aT) (cT - aT) (bM - aM) (cM - aM))) = false then (0, 5) else (aM + topJ (sumI (bT - aT) (cT - aT) (bM - aM) (cM - aM)) (unitI (bT - aT) (cT - aT) (bM - aM) (cM - aM)), 0)
theorem curve3 {aT aM bT bM cT cM : Int} (h : curveB [(aT, aM), (bT, bM), (cT, cM)] = true) : 0 ≤ aT ∧ aT < bT ∧ bT < cT ∧ cT ≤ 10000000 ∧ -2000 ≤ aM ∧ aM ≤ 20000 ∧ -2000 ≤ bM ∧ bM ≤ 20000 ∧ -2000 ≤ cM ∧ cM ≤ 20000 := by
  simp [curveB, pairOk, timeB, magB, inB] at h
  omega
theorem curve3_PB {aT aM bT bM cT cM : Int} (h : curveB [(aT, aM), (bT, bM), (cT, cM)] = true) (h2 : ¬ 100000 < cT - aT) : PB (bT - aT) (cT - aT) (bM - aM) (cM - aM) := by
  have := curve3 h
  exact ⟨by omega, by omega, by omega, by omega, by omega, by omega, by omega⟩
theorem unit_pos {n r u m : Int} (h : PB n r u m) (hb : bendI n r u m ≠ 0) : 0 < unitI n r u m := by
  have hw := h.prods.2.2.2.2.2.1
  unfold unitI
  refine Int.mul_pos (Int.mul_pos (by omega) (by unfold wholeI; omega)) ?_
  unfold absI; split <;> omega
theorem rd_three (W : World) (e : TypeId) (aT aM bT bM cT cM : Int) {q : Nat} (hq : W.heap.size = q) :
    Rd cel2 (W.alloc (.cells #[.int .i64 aT, .int .i64 aM, .int .i64 bT, .int .i64 bM, .int .i64 cT, .int .i64 cM] e)) (.slice (some ⟨q, 0, none⟩) 3 3) [(aT, aM), (bT, bM), (cT, cM)] := by
  subst hq
  exact rd_of_row (B := W.heap.size) (e := e) (own_lit W W.heap.size e 2 [.int .i64 aT, .int .i64 aM, .int .i64 bT, .int .i64 bM, .int .i64 cT, .int .i64 cM] 3 rfl (Nat.le_refl _) (by unfold maxLen; omega))
def RetPar (n r u m : Int) (code : Int) (w : World) (e : Ending) (w' : World) : Prop := e = .returned (.tuple #[.agg #[.int .i64 n, .int .i64 r, .int .i64 u, .int .i64 m], .int .i64 code]) ∧ ∃ g, w' = ext w g
def parI (aT aM bT bM cT cM : Int) : (Int × Int × Int × Int) × Int :=
  if curveB [(aT, aM), (bT, bM), (cT, cM)] = false then ((0, 0, 0, 0), 1) else if 100000 < cT - aT then ((0, 0, 0, 0), 2) else if bendP aT aM bT bM cT cM = 0 then ((0, 0, 0, 0), 6) else ((bT - aT, cT - aT, bM - aM, cM - aM), 0)
set_option maxRecDepth 100000 in
set_option maxHeartbeats 8000000 in
theorem parabolaOf_c (aT aM bT bM cT cM : Int) (w : World) :
    Calls Try.prog 40 #[.agg #[.int .i64 aT, .int .i64 aM], .agg #[.int .i64 bT, .int .i64 bM], .agg #[.int .i64 cT, .int .i64 cM]] w (Ret (.tuple #[.agg #[.int .i64 (parI aT aM bT bM cT cM).1.1, .int .i64 (parI aT aM bT bM cT cM).1.2.1, .int .i64 (parI aT aM bT bM cT cM).1.2.2.1, .int .i64 (parI aT aM bT bM cT cM).1.2.2.2], .int .i64 (parI aT aM bT bM cT cM).2]) w) := by
  refine hide_ret fun v H => ?_
  have HC := Lib.hid (fun u w hu => ValidCurve_c u [(aT, aM), (bT, bM), (cT, cM)] w hu)
  unfold parI at H
  by_cases h1 : curveB [(aT, aM), (bT, bM), (cT, cM)] = true
  rotate_left
  · have h1' : curveB [(aT, aM), (bT, bM), (cT, cM)] = false := by simpa using h1
    rw [h1'] at HC H
    simp only [if_true] at H
    clear h1 h1'
    go_enter Try.func40, Try.ntmps40
    go_wp2_with (first | (go_at_call 52; refine Calls.mono (HC.out _ _ (rd_three _ _ _ _ _ _ _ _ ?_)) ?_; (focus (first | (simp; done) | rfl)); rintro ee ww ⟨rfl, _, rfl⟩))
    refine bodyPost_ret (v := .tuple #[.agg #[.int .i64 0, .int .i64 0, .int .i64 0, .int .i64 0], .int .i64 1]) (by simp (maxDischargeDepth := 8) [results, Try.results40, go_sem]) rfl (Ret.mk ?_ (?_ : Bel _ _))
    · exact H.out
    · (repeat (first | with_reducible exact Bel.refl _ | with_reducible assumption | with_reducible apply Bel.ext | with_reducible apply Bel.alloc | with_reducible apply Bel.drew | ((with_reducible refine Bel.set ?_ ?_ _); rotate_left; (focus (first | omega | (simp; done) | (simp [go_sem]; done) | (dsimp only; omega))))))
  · rw [h1] at HC H
    simp only [Bool.true_eq_false, if_false] at H
    obtain ⟨t0, t1, t2, t3, m0, m1, m2, m3, m4, m5⟩ := curve3 h1
    by_cases h2 : 100000 < cT - aT
    · rw [if_pos h2] at H
      clear h1
      go_enter Try.func40, Try.ntmps40
      go_wp2_with (first | (go_at_call 52; refine Calls.mono (HC.out _ _ (rd_three _ _ _ _ _ _ _ _ ?_)) ?_; (focus (first | (simp; done) | rfl)); rintro ee ww ⟨rfl, _, rfl⟩))
      refine bodyPost_ret (v := .tuple #[.agg #[.int .i64 0, .int .i64 0, .int .i64 0, .int .i64 0], .int .i64 2]) (by simp (maxDischargeDepth := 8) [results, Try.results40, go_sem]) rfl (Ret.mk ?_ (?_ : Bel _ _))
      · exact H.out
      · (repeat (first | with_reducible exact Bel.refl _ | with_reducible assumption | with_reducible apply Bel.ext | with_reducible apply Bel.alloc | with_reducible apply Bel.drew | ((with_reducible refine Bel.set ?_ ?_ _); rotate_left; (focus (first | omega | (simp; done) | (simp [go_sem]; done) | (dsimp only; omega))))))
    · rw [if_neg h2] at H
      have hPB := curve3_PB h1 h2
      have HB := Lib.hid (fun w => bend_c (bT - aT) (cT - aT) (bM - aM) (cM - aM) hPB w)
      unfold bendP at H
      generalize bendI (bT - aT) (cT - aT) (bM - aM) (cM - aM) = B at *
      clear h1 hPB
      by_cases h3 : B = 0
      · rw [if_pos h3] at H
        subst h3
        go_enter Try.func40, Try.ntmps40
        go_wp2_with (first | (go_at_call 52; refine Calls.mono (HC.out _ _ (rd_three _ _ _ _ _ _ _ _ ?_)) ?_; (focus (first | (simp; done) | rfl)); rintro ee ww ⟨rfl, _, rfl⟩) | (go_at_call 53; refine Calls.mono (HB.out _) ?_; rintro ee ww ⟨rfl, _, rfl⟩))
        refine bodyPost_ret (v := .tuple #[.agg #[.int .i64 0, .int .i64 0, .int .i64 0, .int .i64 0], .int .i64 6]) (by simp (maxDischargeDepth := 8) [results, Try.results40, go_sem]) rfl (Ret.mk ?_ (?_ : Bel _ _))
        · exact H.out
        · (repeat (first | with_reducible exact Bel.refl _ | with_reducible assumption | with_reducible apply Bel.ext | with_reducible apply Bel.alloc | with_reducible apply Bel.drew | ((with_reducible refine Bel.set ?_ ?_ _); rotate_left; (focus (first | omega | (simp; done) | (simp [go_sem]; done) | (dsimp only; omega))))))
      · rw [if_neg h3] at H
        have h4 : (B == 0) = false := by simpa using h3
        go_enter Try.func40, Try.ntmps40
        go_wp2_with (first | (go_at_call 52; refine Calls.mono (HC.out _ _ (rd_three _ _ _ _ _ _ _ _ ?_)) ?_; (focus (first | (simp; done) | rfl)); rintro ee ww ⟨rfl, _, rfl⟩) | (go_at_call 53; refine Calls.mono (HB.out _) ?_; rintro ee ww ⟨rfl, _, rfl⟩))
        refine bodyPost_ret (v := .tuple #[.agg #[.int .i64 (bT - aT), .int .i64 (cT - aT), .int .i64 (bM - aM), .int .i64 (cM - aM)], .int .i64 0]) (by simp (maxDischargeDepth := 8) [results, Try.results40, go_sem]) rfl (Ret.mk ?_ (?_ : Bel _ _))
        · exact H.out
        · (repeat (first | with_reducible exact Bel.refl _ | with_reducible assumption | with_reducible apply Bel.ext | with_reducible apply Bel.alloc | with_reducible apply Bel.drew | ((with_reducible refine Bel.set ?_ ?_ _); rotate_left; (focus (first | omega | (simp; done) | (simp [go_sem]; done) | (dsimp only; omega))))))
end Go.Proofs.Ytdneffnnpjgnbaa
