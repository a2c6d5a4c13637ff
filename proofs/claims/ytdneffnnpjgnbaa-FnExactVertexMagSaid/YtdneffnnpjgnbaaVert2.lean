/- Whether a magnitude lies at or below the vertex: what the program's function returns. -/
import Derived.Test.YtdneffnnpjgnbaaVert
namespace Go.Proofs.Ytdneffnnpjgnbaa
open Go.RowKit

def unitI (n r u m : Int) : Int := 4 * wholeI n r * absI (bendI n r u m)
def sumI (n r u m : Int) : Int := if bendI n r u m < 0 then 2 * (absI (tiltI n r u m) * absI (tiltI n r u m)) else -(2 * (absI (tiltI n r u m) * absI (tiltI n r u m)))
theorem hilo_lt (x y : Nat) : x < y ↔ (x / 18446744073709551616 < y / 18446744073709551616 ∨ (x / 18446744073709551616 = y / 18446744073709551616 ∧ x % 18446744073709551616 < y % 18446744073709551616)) := by omega
theorem hilo_eq (x y : Nat) : x = y ↔ (x / 18446744073709551616 = y / 18446744073709551616 ∧ x % 18446744073709551616 = y % 18446744073709551616) := by omega
theorem absN (n : Int) : ∃ a : Nat, absI n = (a : Int) := ⟨n.natAbs, by unfold absI; split <;> omega⟩
set_option maxRecDepth 100000 in
set_option maxHeartbeats 8000000 in
theorem lower_c (n r u m t : Int) (h : PB n r u m) (t0 : -50000 ≤ t) (t1 : t ≤ 50000) (hb : bendI n r u m ≠ 0) (w : World) :
    Calls Try.prog 41 #[.agg #[.int .i64 n, .int .i64 r, .int .i64 u, .int .i64 m], .int .i64 t] w (Ret (.bool (decide ((2 * t - 1) * unitI n r u m ≤ sumI n r u m))) w) := by
  refine hide_ret fun v H => ?_
  obtain ⟨p1, p2, p3, p4, p5, p6⟩ := h.prods
  have HB := Lib.hid (fun w => bend_c n r u m h w)
  have HT := Lib.hid (fun w => tilt_c n r u m h w)
  have HW := Lib.hid (fun w => whole_c n r u m h w)
  have b0 : -5000000000 ≤ bendI n r u m ∧ bendI n r u m ≤ 5000000000 := by unfold bendI; omega
  have q0 : -500000000000000 ≤ tiltI n r u m ∧ tiltI n r u m ≤ 500000000000000 := by unfold tiltI; omega
  have w0 : 1 ≤ wholeI n r ∧ wholeI n r ≤ 1000000000000000 := by unfold wholeI; exact p6
  clear p1 p2 p3 p4 p5 p6 h
  unfold unitI sumI at H
  generalize bendI n r u m = B at *
  generalize tiltI n r u m = T at *
  generalize wholeI n r = W at *
  have HAB := Lib.hid (fun w => abs_c B (by omega) w)
  have HAT := Lib.hid (fun w => abs_c T (by omega) w)
  have hAB : absI B ≤ 5000000000 ∧ 1 ≤ absI B := by unfold absI; split <;> omega
  have hAT : absI T ≤ 500000000000000 ∧ 0 ≤ absI T := by unfold absI; split <;> omega
  obtain ⟨kk, hkk⟩ : ∃ kk, 2 * t - 1 = kk := ⟨_, rfl⟩
  have kk0 : -100001 ≤ kk ∧ kk ≤ 99999 ∧ kk ≠ 0 := by omega
  rw [hkk] at H
  have HAK := Lib.hid (fun w => abs_c (kk) (by omega) w)
  have hAK : absI (kk) ≤ 100001 ∧ 1 ≤ absI (kk) := by unfold absI; split <;> omega
  generalize absI B = ab at *
  generalize absI T = at_ at *
  generalize hk : absI (kk) = ak at *
  obtain ⟨ab, rfl⟩ : ∃ k : Nat, ab = (k : Int) := ⟨ab.toNat, by omega⟩
  obtain ⟨at_, rfl⟩ : ∃ k : Nat, at_ = (k : Int) := ⟨at_.toNat, by omega⟩
  obtain ⟨ak, rfl⟩ : ∃ k : Nat, ak = (k : Int) := ⟨ak.toNat, by omega⟩
  obtain ⟨wn, rfl⟩ : ∃ k : Nat, W = (k : Int) := ⟨W.toNat, by omega⟩
  have HM1 := Lib.hid (fun w => Mul64_c at_ at_ (by omega) (by omega) w)
  have HM2 := Lib.hid (fun w => Mul64_c (4 * wn) ab (by omega) (by omega) w)
  rw [show ((4 * wn : Nat) : Int) = 4 * (wn : Int) by omega] at HM2
  obtain ⟨X, hX⟩ : ∃ X, at_ * at_ = X := ⟨_, rfl⟩
  obtain ⟨U, hU⟩ : ∃ U, 4 * wn * ab = U := ⟨_, rfl⟩
  rw [hX] at HM1
  rw [hU] at HM2
  have X1 : X ≤ 500000000000000 * 500000000000000 := by rw [← hX]; exact Nat.mul_le_mul (by omega) (by omega)
  have U1 : U ≤ 4000000000000000 * 5000000000 := by rw [← hU]; exact Nat.mul_le_mul (by omega) (by omega)
  have U0 : 0 < U := by rw [← hU]; exact Nat.mul_pos (by omega) (by omega)
  have H' := Lib.hid (H.out.symm.trans (by rw [show (at_ : Int) * at_ = (X : Int) by rw [← hX, Int.natCast_mul], show 4 * (wn : Int) * ab = (U : Int) by rw [← hU, Int.natCast_mul, Int.natCast_mul]; rfl] : _ = Value.bool (decide ((kk) * (U : Int) ≤ if B < 0 then 2 * (X : Int) else -(2 * (X : Int))))))
  clear H hX hU
  obtain ⟨xh, hxh⟩ : ∃ k, X / 18446744073709551616 = k := ⟨_, rfl⟩
  obtain ⟨xl, hxl⟩ : ∃ k, X % 18446744073709551616 = k := ⟨_, rfl⟩
  obtain ⟨uh, huh⟩ : ∃ k, U / 18446744073709551616 = k := ⟨_, rfl⟩
  obtain ⟨ul, hul⟩ : ∃ k, U % 18446744073709551616 = k := ⟨_, rfl⟩
  rw [hxh, hxl] at HM1
  rw [huh, hul] at HM2
  have HM3 := Lib.hid (fun w => Mul64_c ul ak (by omega) (by omega) w)
  obtain ⟨C, hC⟩ : ∃ C, ul * ak = C := ⟨_, rfl⟩
  rw [hC] at HM3
  obtain ⟨ch, hch⟩ : ∃ k, C / 18446744073709551616 = k := ⟨_, rfl⟩
  obtain ⟨cl, hcl⟩ : ∃ k, C % 18446744073709551616 = k := ⟨_, rfl⟩
  rw [hch, hcl] at HM3
  obtain ⟨p, hp⟩ : ∃ p, uh * ak = p := ⟨_, rfl⟩
  have C1 : C ≤ 18446744073709551615 * 100001 := by rw [← hC]; exact Nat.mul_le_mul (by omega) (by omega)
  have p1 : p ≤ 2000000 * 100001 := by rw [← hp]; exact Nat.mul_le_mul (by omega) (by omega)
  obtain ⟨Z, hZ⟩ : ∃ Z, U * ak = Z := ⟨_, rfl⟩
  have hZ2 : Z = (p + ch) * 18446744073709551616 + cl := by
    have h1 : U = uh * 18446744073709551616 + ul := by omega
    have h2 : C = ch * 18446744073709551616 + cl := by omega
    rw [← hZ, h1, Nat.add_mul, hC, h2, Nat.mul_right_comm, hp]; omega
  have hZ0 : 1 ≤ Z := by rw [← hZ]; exact Nat.mul_pos U0 (by omega)
  obtain ⟨yh, hyh⟩ : ∃ k, 2 * X / 18446744073709551616 = k := ⟨_, rfl⟩
  obtain ⟨yl, hyl⟩ : ∃ k, 2 * X % 18446744073709551616 = k := ⟨_, rfl⟩
  obtain ⟨th, hth⟩ : ∃ k, p + ch = k := ⟨_, rfl⟩
  have eor : bits .or .u64 ((xh : Int) * 2) ((xl : Int) / 9223372036854775808) = (yh : Int) := by
    have h1 := bits_or_u64_nat (xh * 2) (xl / 9223372036854775808) (by omega) (by omega)
    have h2 : xh * 2 ||| xl / 9223372036854775808 = xh * 2 + xl / 9223372036854775808 := by
      have := Nat.two_pow_add_eq_or_of_lt (i := 1) (b := xl / 9223372036854775808) (by omega) xh
      rw [Nat.mul_comm xh 2]
      simpa using this.symm
    rw [h2] at h1
    have h3 : ((xh * 2 : Nat) : Int) = (xh : Int) * 2 := by omega
    have h4 : ((xl / 9223372036854775808 : Nat) : Int) = (xl : Int) / 9223372036854775808 := by omega
    rw [h3, h4] at h1
    rw [h1]; omega
  have ewl : IntKind.u64.wrap ((xl : Int) * 2) = (yl : Int) := by rw [IntKind.wrap_u64]; omega
  have emu : IntKind.u64.wrap ((uh : Int) * ak) = (p : Int) := by
    rw [← Int.natCast_mul, hp]; exact IntWalk.u64_in _ ⟨by omega, by omega⟩
  have eth : (p : Int) + ch = (th : Int) := by omega
  have HKU : Hid ((kk < 0 → (kk) * (U : Int) = -(Z : Int)) ∧ (¬ kk < 0 → (kk) * (U : Int) = (Z : Int))) := Lib.hid (by
    have h1 : ((U * ak : Nat) : Int) = (Z : Int) := by rw [hZ]
    rw [Int.natCast_mul, ← hk] at h1
    unfold absI at h1
    constructor
    · intro h; rw [if_pos h] at h1; rw [← h1]; grind
    · intro h; rw [if_neg h] at h1; rw [← h1]; exact Int.mul_comm _ _)
  have hY : 2 * X = yh * 18446744073709551616 + yl := by omega
  have HY := Lib.hid hY
  have HZ2 : Hid (Z = th * 18446744073709551616 + cl) := Lib.hid (by rw [hZ2, hth])
  have yl1 : yl < 18446744073709551616 := by omega
  have cl1 : cl < 18446744073709551616 := by omega
  have y1 : yh < 18446744073709551616 := by omega
  have x1 : xh < 4611686018427387904 := by omega
  have xl1 : xl < 18446744073709551616 := by omega
  have uh1 : uh ≤ 2000000 := by omega
  have ul1 : ul < 18446744073709551616 := by omega
  have th1 : th < 18446744073709551616 := by omega
  have ch1 : ch < 4611686018427387904 := by omega
  clear hxh hxl huh hul hC hch hcl hp hZ hZ2 hyh hyl hth hY hk C1 X1 U1
  have e1 : IntKind.u64.wrap (at_ : Int) = at_ := IntWalk.u64_in _ ⟨by omega, by omega⟩
  have e2 : IntKind.u64.wrap (ab : Int) = ab := IntWalk.u64_in _ ⟨by omega, by omega⟩
  go_enter Try.func41, Try.ntmps41
  go_wp2_with fail
  go_region_held3 (fun q_ => q_.cell? ⟨w.heap.size, 0, none⟩ = some (.int .i64 n) ∧ q_.cell? ⟨w.heap.size, 1, none⟩ = some (.int .i64 r) ∧ q_.cell? ⟨w.heap.size, 2, none⟩ = some (.int .i64 u) ∧ q_.cell? ⟨w.heap.size, 3, none⟩ = some (.int .i64 m)) (simp [go_sem, *]) (first | (go_at_call 55; refine Calls.mono (HT.out _) ?_; rintro ee ww ⟨rfl, _, rfl⟩) | (go_at_call 53; refine Calls.mono (HB.out _) ?_; rintro ee ww ⟨rfl, _, rfl⟩) | (go_at_call 54; refine args_g1 (.int .i64 T) (by with_reducible rfl) ?_; refine Calls.mono (HAT.out _) ?_; rintro ee ww ⟨rfl, rfl⟩) | (go_at_call 54; refine args_g1 (.int .i64 B) (by with_reducible rfl) ?_; refine Calls.mono (HAB.out _) ?_; rintro ee ww ⟨rfl, rfl⟩))
  clear e1 e2
  have hrel : (th < yh) ∨ (yh < th) ∨ (th = yh ∧ cl < yl) ∨ (th = yh ∧ cl = yl) ∨ (th = yh ∧ yl < cl) := by omega
  by_cases hB : B < 0 <;> by_cases hK : kk < 0
  all_goals first | rw [if_pos hB] at H' | rw [if_neg hB] at H'
  all_goals
    have hKU := HKU.out
    first | rw [hKU.1 (by omega)] at H' | rw [hKU.2 (by omega)] at H'
    clear hKU HKU
    have hY := HY.out
    have hZ := HZ2.out
    rcases hrel with a | a | ⟨a, a2⟩ | ⟨a, a2⟩ | ⟨a, a2⟩
  all_goals
    first
    | (have H2 := Lib.hid (H'.out.trans (congrArg Value.bool (decide_eq_true (by omega))))
       clear H' hY hZ HY HZ2
       (try have n1 : ¬ th < yh := by omega)
       (try have n2 : ¬ cl < yl := by omega)
       (try have n3 : ((cl : Int) == yl) = false := by (simp; omega))
       (try have n4 : ¬ (cl : Int) < yl := by omega)
       (try have n5 : ¬ (th : Int) < yh := by omega)
       (try subst a)
       (try subst a2)
       go_wp2_with (first | (go_at_call 56; refine args_g2 (.int .u64 at_) (by with_reducible rfl) ?_; refine Calls.mono (HM1.out _) ?_; rintro ee ww ⟨rfl, rfl⟩) | (go_at_call 56; refine args_g2 (.int .u64 (4 * wn)) (by with_reducible rfl) ?_; refine Calls.mono (HM2.out _) ?_; rintro ee ww ⟨rfl, rfl⟩) | (go_at_call 56; refine args_g2 (.int .u64 ul) (by with_reducible rfl) ?_; refine Calls.mono (HM3.out _) ?_; rintro ee ww ⟨rfl, rfl⟩) | (go_at_call 57; refine Calls.mono (HW.out _) ?_; rintro ee ww ⟨rfl, _, rfl⟩) | (go_at_call 54; refine args_g1 (.int .i64 (kk)) (by with_reducible rfl) ?_; refine Calls.mono (HAK.out _) ?_; rintro ee ww ⟨rfl, rfl⟩) | (go_at_call 53; refine Calls.mono (HB.out _) ?_; rintro ee ww ⟨rfl, _, rfl⟩))
       go_ret
       first | exact Ret.mk H2.out.symm (by (repeat (first | with_reducible exact Bel.refl _ | with_reducible assumption | apply Bel.ext | apply Bel.alloc | apply Bel.drew | exact Bel.refl _ | refine Bel.set ?_ (by first | (simp; done) | (simp [go_sem]; done) | omega) _)) : Bel _ _) | exact Ret.mk ((congrArg Value.bool (decide_eq_false (by omega)) : Value.bool (decide (kk < 0)) = Value.bool false).trans H2.out.symm) (by (repeat (first | with_reducible exact Bel.refl _ | with_reducible assumption | apply Bel.ext | apply Bel.alloc | apply Bel.drew | exact Bel.refl _ | refine Bel.set ?_ (by first | (simp; done) | (simp [go_sem]; done) | omega) _)) : Bel _ _))
    | (have H2 := Lib.hid (H'.out.trans (congrArg Value.bool (decide_eq_false (by omega))))
       clear H' hY hZ HY HZ2
       (try have n1 : ¬ th < yh := by omega)
       (try have n2 : ¬ cl < yl := by omega)
       (try have n3 : ((cl : Int) == yl) = false := by (simp; omega))
       (try have n4 : ¬ (cl : Int) < yl := by omega)
       (try have n5 : ¬ (th : Int) < yh := by omega)
       (try subst a)
       (try subst a2)
       go_wp2_with (first | (go_at_call 56; refine args_g2 (.int .u64 at_) (by with_reducible rfl) ?_; refine Calls.mono (HM1.out _) ?_; rintro ee ww ⟨rfl, rfl⟩) | (go_at_call 56; refine args_g2 (.int .u64 (4 * wn)) (by with_reducible rfl) ?_; refine Calls.mono (HM2.out _) ?_; rintro ee ww ⟨rfl, rfl⟩) | (go_at_call 56; refine args_g2 (.int .u64 ul) (by with_reducible rfl) ?_; refine Calls.mono (HM3.out _) ?_; rintro ee ww ⟨rfl, rfl⟩) | (go_at_call 57; refine Calls.mono (HW.out _) ?_; rintro ee ww ⟨rfl, _, rfl⟩) | (go_at_call 54; refine args_g1 (.int .i64 (kk)) (by with_reducible rfl) ?_; refine Calls.mono (HAK.out _) ?_; rintro ee ww ⟨rfl, rfl⟩) | (go_at_call 53; refine Calls.mono (HB.out _) ?_; rintro ee ww ⟨rfl, _, rfl⟩))
       go_ret
       first | exact Ret.mk H2.out.symm (by (repeat (first | with_reducible exact Bel.refl _ | with_reducible assumption | apply Bel.ext | apply Bel.alloc | apply Bel.drew | exact Bel.refl _ | refine Bel.set ?_ (by first | (simp; done) | (simp [go_sem]; done) | omega) _)) : Bel _ _) | exact Ret.mk ((congrArg Value.bool (decide_eq_false (by omega)) : Value.bool (decide (kk < 0)) = Value.bool false).trans H2.out.symm) (by (repeat (first | with_reducible exact Bel.refl _ | with_reducible assumption | apply Bel.ext | apply Bel.alloc | apply Bel.drew | exact Bel.refl _ | refine Bel.set ?_ (by first | (simp; done) | (simp [go_sem]; done) | omega) _)) : Bel _ _))
end Go.Proofs.Ytdneffnnpjgnbaa
