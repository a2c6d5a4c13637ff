/- The magnitude of the vertex of a parabola through three points: what the reference returns. -/
import Derived.Test.YtdneffnnpjgnbaaVert3
import Derived.Test.YtdneffnnpjgnbaaWide2
namespace Go.Proofs.Ytdneffnnpjgnbaa
open Go.RowKit

def codeV (aT aM bT bM cT cM : Int) : Int := if curveB [(aT, aM), (bT, bM), (cT, cM)] = false then 1 else if 100000 < cT - aT then 2 else 0
set_option maxHeartbeats 4000000 in
theorem l12Code_c (aT aM bT bM cT cM : Int) (w : World) :
    Calls Try.prog 33 #[.agg #[.int .i64 aT, .int .i64 aM], .agg #[.int .i64 bT, .int .i64 bM], .agg #[.int .i64 cT, .int .i64 cM]] w (Ret (.int .i64 (codeV aT aM bT bM cT cM)) w) := by
  refine hide_ret fun v H => ?_
  have HC := Lib.hid (fun u w hu => l08Ok_c u [(aT, aM), (bT, bM), (cT, cM)] w hu)
  unfold codeV at H
  by_cases h1 : curveB [(aT, aM), (bT, bM), (cT, cM)] = true
  rotate_left
  · have h1' : curveB [(aT, aM), (bT, bM), (cT, cM)] = false := by simpa using h1
    rw [h1'] at HC H
    simp only [if_true] at H
    clear h1 h1'
    go_enter Try.func33, Try.ntmps33
    go_wp2_with (first | (go_at_call 50; refine Calls.mono (HC.out _ _ (rd_three _ _ _ _ _ _ _ _ ?_)) ?_; (focus (first | (simp; done) | rfl)); rintro ee ww ⟨rfl, _, rfl⟩))
    go_ret
    exact Ret.mk H.out (by (repeat (first | with_reducible exact Bel.refl _ | with_reducible assumption | with_reducible apply Bel.ext | with_reducible apply Bel.alloc | with_reducible apply Bel.drew | ((with_reducible refine Bel.set ?_ ?_ _); rotate_left; (focus (first | omega | (simp; done) | (simp [go_sem]; done) | (dsimp only; omega)))))) : Bel _ _)
  · rw [h1] at HC H
    simp only [Bool.true_eq_false, if_false] at H
    obtain ⟨t0, t1, t2, t3, m0, m1, m2, m3, m4, m5⟩ := curve3 h1
    clear h1
    by_cases h2 : 100000 < cT - aT
    · rw [if_pos h2] at H
      go_enter Try.func33, Try.ntmps33
      go_wp2_with (first | (go_at_call 50; refine Calls.mono (HC.out _ _ (rd_three _ _ _ _ _ _ _ _ ?_)) ?_; (focus (first | (simp; done) | rfl)); rintro ee ww ⟨rfl, _, rfl⟩))
      go_ret
      exact Ret.mk H.out (by (repeat (first | with_reducible exact Bel.refl _ | with_reducible assumption | with_reducible apply Bel.ext | with_reducible apply Bel.alloc | with_reducible apply Bel.drew | ((with_reducible refine Bel.set ?_ ?_ _); rotate_left; (focus (first | omega | (simp; done) | (simp [go_sem]; done) | (dsimp only; omega)))))) : Bel _ _)
    · rw [if_neg h2] at H
      go_enter Try.func33, Try.ntmps33
      go_wp2_with (first | (go_at_call 50; refine Calls.mono (HC.out _ _ (rd_three _ _ _ _ _ _ _ _ ?_)) ?_; (focus (first | (simp; done) | rfl)); rintro ee ww ⟨rfl, _, rfl⟩))
      go_ret
      exact Ret.mk H.out (by (repeat (first | with_reducible exact Bel.refl _ | with_reducible assumption | with_reducible apply Bel.ext | with_reducible apply Bel.alloc | with_reducible apply Bel.drew | ((with_reducible refine Bel.set ?_ ?_ _); rotate_left; (focus (first | omega | (simp; done) | (simp [go_sem]; done) | (dsimp only; omega)))))) : Bel _ _)
set_option maxRecDepth 100000 in
set_option maxHeartbeats 4000000 in
theorem l12Vertex_c (aT aM bT bM cT cM n r u m : Int) (hn : bT - aT = n) (hr : cT - aT = r) (hu : bM - aM = u) (hm : cM - aM = m) (h : PB n r u m) (ha : -10000000 ≤ aT ∧ aT ≤ 10000000 ∧ -20000 ≤ aM ∧ aM ≤ 20000) (w : World) :
    Calls Try.prog 34 #[.agg #[.int .i64 aT, .int .i64 aM], .agg #[.int .i64 bT, .int .i64 bM], .agg #[.int .i64 cT, .int .i64 cM]] w (Ret (.tuple #[.int .i64 (-tiltI n r u m), .int .i64 (bendI n r u m)]) w) := by
  obtain ⟨b1, b2, b3, b4, b5, b6⟩ := h.prods
  obtain ⟨n1, nr, r1, u0, u1, m0, m1⟩ := h
  rw [show -tiltI n r u m = m * n * n - u * r * r by unfold tiltI; omega]
  unfold bendI
  refine hide_ret fun v H => ?_
  have e1 : IntKind.i64.wrap (m * n) = m * n := IntWalk.i64_in _ ⟨by omega, by omega⟩
  have e2 : IntKind.i64.wrap (m * n * n) = m * n * n := IntWalk.i64_in _ ⟨by omega, by omega⟩
  have e3 : IntKind.i64.wrap (u * r) = u * r := IntWalk.i64_in _ ⟨by omega, by omega⟩
  have e4 : IntKind.i64.wrap (u * r * r) = u * r * r := IntWalk.i64_in _ ⟨by omega, by omega⟩
  have e5 : IntKind.i64.wrap (m * n * n - u * r * r) = m * n * n - u * r * r := IntWalk.i64_in _ ⟨by omega, by omega⟩
  have e6 : IntKind.i64.wrap (m * n - u * r) = m * n - u * r := IntWalk.i64_in _ ⟨by omega, by omega⟩
  clear b5 b6
  go_enter Try.func34, Try.ntmps34
  go_wp2
  go_ret2
  exact Ret.mk H.out (by (repeat (first | with_reducible exact Bel.refl _ | with_reducible assumption | with_reducible apply Bel.ext | with_reducible apply Bel.alloc | with_reducible apply Bel.drew | ((with_reducible refine Bel.set ?_ ?_ _); rotate_left; (focus (first | omega | (simp; done) | (simp [go_sem]; done) | (dsimp only; omega)))))) : Bel _ _)
end Go.Proofs.Ytdneffnnpjgnbaa
