/- The line with the least squares through minima: what both sides return. -/
import Derived.Test.YtlnpfggcmjljbaaFitPlain
import Derived.Test.YtlnpfggcmjljbaaResid
namespace Go.Proofs.Ytlnpfggcmjljbaa
open Go.RowKit

def fitI (xs : List (Int × Int)) : Int × Int × Int × Int × Int :=
  if !minimaB xs then (0, 0, 0, 0, 1) else if xs.length < 2 then (0, 0, 0, 0, 3) else if 1000 < spanB xs then (0, 0, 0, 0, 5)
  else (fracN (fitA xs) (fitB xs), fracD (fitA xs) (fitB xs), fracN (fitN xs) (fitD xs), fracD (fitN xs) (fitD xs), 0)
def fitV (s : Int × Int × Int × Int × Int) : Value := .tuple #[.agg #[.int .i64 s.1, .int .i64 s.2.1], .agg #[.int .i64 s.2.2.1, .int .i64 s.2.2.2.1], .int .i64 s.2.2.2.2]
theorem count_c (a : Option Addr) (n c : Nat) (w : World) : Calls Try.prog 70 #[.slice a n c] w (Same (.int .i64 n) w) := by
  refine hide_same fun v H => ?_
  go_enter Try.func70, Try.ntmps70
  go_wp2
  go_ret
  exact Same.mk H.out
theorem sums_bd {xs : List (Int × Int)} (h : minimaB xs = true) (k : Nat) (hk : k ≤ xs.length) :
    -500000 ≤ sumF (·.1) (xs.take k) ∧ sumF (·.1) (xs.take k) ≤ 500000 ∧ 0 ≤ sumF (·.2) (xs.take k) ∧ sumF (·.2) (xs.take k) ≤ 500000000 ∧
    -5000000000000 ≤ sumF (fun x => x.1 * x.2) (xs.take k) ∧ sumF (fun x => x.1 * x.2) (xs.take k) ≤ 5000000000000 ∧ 0 ≤ sumF (fun x => x.1 * x.1) (xs.take k) ∧ sumF (fun x => x.1 * x.1) (xs.take k) ≤ 5000000000 := by
  have hl := minimaB_len h
  have hg : ∀ x ∈ xs.take k, -10000 ≤ x.1 ∧ x.1 ≤ 10000 ∧ 0 ≤ x.2 ∧ x.2 ≤ 10000000 := fun x hx => by
    obtain ⟨i, hi⟩ := List.mem_iff_getElem?.1 (List.mem_of_mem_take hx)
    exact minimaB_get h hi
  have e : (xs.take k).length = k := by rw [List.length_take]; omega
  have s1 := sumF_bd (·.1) (-10000) 10000 _ (fun x hx => by have := hg x hx; omega)
  have s2 := sumF_bd (·.2) 0 10000000 _ (fun x hx => by have := hg x hx; omega)
  have s3 := sumF_bd (fun x => x.1 * x.2) (-100000000000) 100000000000 _ (fun x hx => by obtain ⟨a, b, c, d⟩ := hg x hx; exact mul_in' (A := 10000) (B := 10000000) a b c d)
  have s4 := sumF_bd (fun x => x.1 * x.1) 0 100000000 _ (fun x hx => by
    obtain ⟨a, b, c, d⟩ := hg x hx
    rcases Int.le_total 0 x.1 with h | h
    · exact mul_in (A := 10000) (B := 10000) h b h b
    · rw [show x.1 * x.1 = (-x.1) * (-x.1) from (Int.neg_mul_neg _ _).symm]; exact mul_in (A := 10000) (B := 10000) (by omega) (by omega) (by omega) (by omega))
  rw [e] at s1 s2 s3 s4
  omega
theorem sumF_take (f : Int × Int → Int) {xs : List (Int × Int)} {k : Nat} {x : Int × Int} (h : xs[k]? = some x) : sumF f (xs.take (k + 1)) = sumF f (xs.take k) + f x := by
  rw [take_snoc_of h, sumF_snoc]
theorem fit_good {xs : List (Int × Int)} (h : minimaB xs = true) (h2 : ¬ xs.length < 2) (hs : ¬ 1000 < spanB xs) (C T U Q : Int) (hC : sumF (·.1) xs = C) (hT : sumF (·.2) xs = T) (hU : sumF (fun x => x.1 * x.2) xs = U) (hQ : sumF (fun x => x.1 * x.1) xs = Q) (n : Nat) (hn : n = xs.length) :
    2 ≤ n ∧ n ≤ 50 ∧ fitN xs = n * U - C * T ∧ fitD xs = n * Q - C * C ∧ 0 ≤ n * U - C * T ∧ n * U - C * T ≤ 12250000000000 ∧ 1 ≤ n * Q - C * C ∧ n * Q - C * C ≤ 1225000000 := by
  have e1 : fitN xs = n * U - C * T := by unfold fitN pairP; rw [hC, hT, hU, hn]
  have e2 : fitD xs = n * Q - C * C := by unfold fitD pairP; rw [hC, hQ, hn]
  obtain ⟨_, _, _, _, p1, p2, p3, p4⟩ := fit_bd h (by omega) (by omega)
  have := minimaB_len h
  rw [e1] at p1 p2; rw [e2] at p3 p4
  exact ⟨by omega, by omega, e1, e2, p1, p2, p3, p4⟩
/-- the bounds of what stands behind the second shortening -/
theorem fit_last (C T N D a b : Int) (n : Nat) (c1 : -500000 ≤ C) (c2 : C ≤ 500000) (t1 : 0 ≤ T) (t2 : T ≤ 500000000) (hn : 2 ≤ n) (hn' : n ≤ 50) (a1 : 0 ≤ a) (a2 : a ≤ N) (n2 : N ≤ 12250000000000) (b1 : 1 ≤ b) (b2 : b ≤ D) (d2 : D ≤ 1225000000) :
    0 ≤ T * b ∧ T * b ≤ 612500000000000000 ∧ -6125000000000000000 ≤ a * C ∧ a * C ≤ 6125000000000000000 ∧ 2 ≤ (n : Int) * b ∧ (n : Int) * b ≤ 61250000000 := by
  obtain ⟨h1, h2⟩ := mul_in (A := 500000000) (B := 1225000000) t1 t2 (show 0 ≤ b by omega) (by omega)
  obtain ⟨h3, h4⟩ := mul_in' (A := 500000) (B := 12250000000000) c1 c2 a1 (by omega)
  obtain ⟨h5, h6⟩ := mul_in (A := 50) (B := 1225000000) (show 0 ≤ (n : Int) by omega) (by omega) (show 0 ≤ b by omega) (by omega)
  rw [Int.mul_comm C a] at h3 h4
  have h7 := Int.mul_le_mul (show (2 : Int) ≤ n by omega) b1 (by omega) (by omega)
  omega
set_option maxHeartbeats 8000000 in
theorem FitMinima_c (u : Value) (xs : List (Int × Int)) (w : World) (hu : Rd cel2 w u xs) :
    Calls Try.prog 43 #[u] w (Ret (fitV (fitI xs)) w) := by
  refine hide_ret fun v H => ?_
  have hu' := hu
  obtain ⟨a, n, c, rfl, hs⟩ := hu'.sl
  have hcap := hs.le; have hmax := hs.cap
  unfold maxLen at hmax
  have HL := Lib.hid hs.len
  rcases h1 : minimaB xs with _ | _
  · simp only [fitI, h1, Bool.not_true, Bool.not_false, Bool.true_or, Bool.or_true, Bool.false_or, Bool.or_false, Bool.true_and, Bool.and_true, Bool.false_and, Bool.and_false, if_true, if_false, Bool.false_eq_true] at H
    go_enter Try.func43, Try.ntmps43
    go_wp2_with (first | (go_at_call 17; refine Calls.mono (ValidMinima_c _ xs _ (hu.bel ?_)) ?_; (focus (repeat (first | exact Bel.refl _ | apply Bel.ext | apply Bel.alloc | apply Bel.drew))); rintro ee ww ⟨rfl, _, rfl⟩))
    refine bodyPost_ret (v := .tuple #[.agg #[.int .i64 0, .int .i64 0], .agg #[.int .i64 0, .int .i64 0], .int .i64 1]) (by simp [results, Try.results43, go_sem]) rfl (Ret.mk ?_ (?_ : Bel _ _))
    · exact H.out
    · (repeat (first | exact Bel.refl _ | apply Bel.ext | apply Bel.alloc | apply Bel.drew | refine Bel.set ?_ (by first | (simp; done) | (simp [go_sem]; done) | omega) _))
  have hlen := minimaB_len h1
  rw [← HL.out] at hlen
  by_cases h2 : n < 2
  · have h2' : xs.length < 2 := by rw [← HL.out]; exact h2
    simp only [fitI, h1, Bool.not_true, Bool.not_false, Bool.true_or, Bool.or_true, Bool.false_or, Bool.or_false, Bool.true_and, Bool.and_true, Bool.false_and, Bool.and_false, if_true, if_false, Bool.false_eq_true, if_pos h2'] at H
    clear h2'
    go_enter Try.func43, Try.ntmps43
    go_wp2_with (first | (go_at_call 17; refine Calls.mono (ValidMinima_c _ xs _ (hu.bel ?_)) ?_; (focus (repeat (first | exact Bel.refl _ | apply Bel.ext | apply Bel.alloc | apply Bel.drew))); rintro ee ww ⟨rfl, _, rfl⟩))
    refine bodyPost_ret (v := .tuple #[.agg #[.int .i64 0, .int .i64 0], .agg #[.int .i64 0, .int .i64 0], .int .i64 3]) (by simp [results, Try.results43, go_sem]) rfl (Ret.mk ?_ (?_ : Bel _ _))
    · exact H.out
    · (repeat (first | exact Bel.refl _ | apply Bel.ext | apply Bel.alloc | apply Bel.drew | refine Bel.set ?_ (by first | (simp; done) | (simp [go_sem]; done) | omega) _))
  have h2' : ¬ xs.length < 2 := by rw [← HL.out]; exact h2
  obtain ⟨b, off, rfl, hb⟩ := hs.base (k := 0) (by omega)
  obtain ⟨x0, y0, hx0, hc0, hd0⟩ := hs.at2 (k := 0) (by omega)
  obtain ⟨x9, y9, hx9, hc9, hd9⟩ := hs.at2 (k := n - 1) (by omega)
  have hspan : spanB xs = x9 - x0 := by unfold spanB; rw [← HL.out, getD_of hx9.out, getD_of hx0.out]
  have q0 := minimaB_get h1 hx0.out
  have q9 := minimaB_get h1 hx9.out
  simp only at q0 q9
  have w1 : IntKind.i64.wrap ((n : Int) - 1) = (n : Int) - 1 := IntWalk.i64_in _ (by omega)
  have w2 : IntKind.i64.wrap (x9 - x0) = x9 - x0 := IntWalk.i64_in _ (by omega)
  simp only [Nat.zero_mul, Nat.add_zero] at hc0
  by_cases h3 : 1000 < spanB xs
  · simp only [fitI, h1, Bool.not_true, Bool.not_false, Bool.true_or, Bool.or_true, Bool.false_or, Bool.or_false, Bool.true_and, Bool.and_true, Bool.false_and, Bool.and_false, if_true, if_false, Bool.false_eq_true, if_neg h2', if_pos h3] at H
    rw [hspan] at h3
    clear h2' hspan
    go_enter Try.func43, Try.ntmps43
    go_wp2_with (first | (go_at_call 17; refine Calls.mono (ValidMinima_c _ xs _ (hu.bel ?_)) ?_; (focus (repeat (first | exact Bel.refl _ | apply Bel.ext | apply Bel.alloc | apply Bel.drew))); rintro ee ww ⟨rfl, _, rfl⟩))
    refine region_ext (by kernel_rfl) (by kernel_rfl) ?_
    repeat (go_big_quiet_step (fail))
    refine wpQuiet_nil ?_
    rintro _ ⟨_, rfl⟩
    go_wp2
    refine bodyPost_ret (v := .tuple #[.agg #[.int .i64 0, .int .i64 0], .agg #[.int .i64 0, .int .i64 0], .int .i64 5]) (by simp [results, Try.results43, go_sem]) rfl (Ret.mk ?_ (?_ : Bel _ _))
    · exact H.out
    · (repeat (first | exact Bel.refl _ | apply Bel.ext | apply Bel.alloc | apply Bel.drew | refine Bel.set ?_ (by first | (simp; done) | (simp [go_sem]; done) | omega) _))
  simp only [fitI, h1, Bool.not_true, Bool.not_false, Bool.true_or, Bool.or_true, Bool.false_or, Bool.or_false, Bool.true_and, Bool.and_true, Bool.false_and, Bool.and_false, if_true, if_false, Bool.false_eq_true, if_neg h2', if_neg h3] at H
  have HG := Lib.hid (fit_good h1 h2' h3)
  have HS := Lib.hid (fun k hk => sums_bd h1 k hk)
  have HM := Lib.hid (fun (k : Nat) (x : Int × Int) (hx : xs[k]? = some x) => minimaB_get h1 hx)
  rw [hspan] at h3
  clear h2' hspan
  go_enter Try.func43, Try.ntmps43
  go_wp2_with (first | (go_at_call 17; refine Calls.mono (ValidMinima_c _ xs _ (hu.bel ?_)) ?_; (focus (repeat (first | exact Bel.refl _ | apply Bel.ext | apply Bel.alloc | apply Bel.drew))); rintro ee ww ⟨rfl, _, rfl⟩))
  refine region_ext (by kernel_rfl) (by kernel_rfl) ?_
  repeat (go_big_quiet_step (fail))
  refine wpQuiet_nil ?_
  rintro _ ⟨_, rfl⟩
  go_wp2_with (first | (go_at_call 70; refine Calls.mono (count_c _ _ _ _) ?_; rintro ee ww ⟨rfl, rfl⟩))
  go_loopw [6, 7, 8, 9, 45] (fun c t u q i wr => ∃ k : Nat, k ≤ n ∧ i = .int .i64 k ∧ c = .int .i64 (sumF (·.1) (xs.take k)) ∧ t = .int .i64 (sumF (·.2) (xs.take k)) ∧ u = .int .i64 (sumF (fun x => x.1 * x.2) (xs.take k)) ∧ q = .int .i64 (sumF (fun x => x.1 * x.1) (xs.take k)) ∧ (∃ g, wr = ext ((w.alloc (Obj.cells #[.int .i64 0, .int .i64 0] 37)).alloc (Obj.cells #[.int .i64 0, .int .i64 0] 37)) g)) (fun _ _ _ _ i _ => n - (intOf i).toNat)
  case atStart => exact ⟨0, Nat.zero_le _, rfl, rfl, rfl, rfl, rfl, ext_ex (by (repeat (first | exact Bel.refl _ | apply Bel.ext | apply Bel.alloc | apply Bel.drew | refine Bel.set ?_ (by first | (simp; done) | (simp [go_sem]; done) | omega) _)) : Bel _ _)⟩
  case round =>
    obtain ⟨k, hk, rfl, rfl, rfl, rfl, rfl, ⟨g, rfl⟩⟩ := hrel
    obtain ⟨b1, b2, b3, b4, b5, b6, b7, b8⟩ := HS.out k (by rw [← HL.out]; exact hk)
    by_cases hlt : k < n
    · obtain ⟨x, y, hx, hcx, hcy⟩ := hs.at2 hlt
      have hb9 := HS.out (k + 1) (by rw [← HL.out]; omega)
      rw [sumF_take _ hx.out, sumF_take _ hx.out, sumF_take _ hx.out, sumF_take _ hx.out] at hb9
      obtain ⟨d1, d2, d3, d4, d5, d6, d7, d8⟩ := hb9
      obtain ⟨m1, m2, m3, m4⟩ := HM.out k _ hx.out
      simp only at d1 d2 d3 d4 d5 d6 d7 d8 m1 m2 m3 m4
      have E1 := Lib.hid (sumF_take (·.1) hx.out)
      have E2 := Lib.hid (sumF_take (·.2) hx.out)
      have E3 := Lib.hid (sumF_take (fun x => x.1 * x.2) hx.out)
      have E4 := Lib.hid (sumF_take (fun x => x.1 * x.1) hx.out)
      generalize sumF (·.1) (xs.take k) = C at *
      generalize sumF (·.2) (xs.take k) = T at *
      generalize sumF (fun x => x.1 * x.2) (xs.take k) = U at *
      generalize sumF (fun x => x.1 * x.1) (xs.take k) = Q at *
      obtain ⟨p1, p2⟩ := mul_in' (A := 10000) (B := 10000000) m1 m2 m3 m4
      have p3 : -6000000000 ≤ x * x ∧ x * x ≤ 6000000000 := by omega
      have v1 : IntKind.i64.wrap (C + x) = C + x := IntWalk.i64_in _ (by omega)
      have v2 : IntKind.i64.wrap (T + y) = T + y := IntWalk.i64_in _ (by omega)
      have v3 : IntKind.i64.wrap (x * y) = x * y := IntWalk.i64_in _ (by omega)
      have v4 : IntKind.i64.wrap (U + x * y) = U + x * y := IntWalk.i64_in _ (by omega)
      have v5 : IntKind.i64.wrap (x * x) = x * x := IntWalk.i64_in _ (by omega)
      have v6 : IntKind.i64.wrap (Q + x * x) = Q + x * x := IntWalk.i64_in _ (by omega)
      clear d1 d2 d3 d4 d5 d6 d7 d8 p1 p2 p3
      go_wp2_with fail
      refine region_ext (by kernel_rfl) (by kernel_rfl) ?_
      repeat (go_big_quiet_step (fail))
      refine wpQuiet_nil ?_
      rintro _ ⟨_, rfl⟩
      go_wp2
      go_roundw
      case rel => exact ⟨k + 1, by omega, by go_num, by rw [E1.out], by rw [E2.out], by rw [E3.out], by rw [E4.out], ext_ex (by (repeat (first | exact Bel.refl _ | apply Bel.ext | apply Bel.alloc | apply Bel.drew | refine Bel.set ?_ (by first | (simp; done) | (simp [go_sem]; done) | omega) _)) : Bel _ _)⟩
      case measure => simp [intOf]; omega
    · have hk' : k = n := by omega
      subst hk'
      have ht : xs.take k = xs := List.take_of_length_le (by rw [HL.out]; exact Nat.le_refl _)
      have HT := Lib.hid ht
      rw [ht] at b1 b2 b3 b4 b5 b6 b7 b8
      simp only [ht]
      have C' := Lib.hid (Eq.refl (sumF (·.1) xs))
      generalize hC : sumF (·.1) xs = C at *
      generalize hT : sumF (·.2) xs = T at *
      generalize hU : sumF (fun x => x.1 * x.2) xs = U at *
      generalize hQ : sumF (fun x => x.1 * x.1) xs = Q at *
      obtain ⟨n1, n2, eN, eD, f1, f2, f3, f4⟩ := HG.out C T U Q rfl rfl rfl rfl k HL.out
      have EA : fitA xs = T * (k * Q - C * C) - (k * U - C * T) * C := by unfold fitA; rw [hC, hT, eN, eD]
      have EB : fitB xs = k * (k * Q - C * C) := by unfold fitB; rw [eD, ← HL.out]
      rw [EA, EB, eN, eD] at H
      obtain ⟨s1, s2⟩ := fit_short T C k (k * U - C * T) (k * Q - C * C) f1 f3 (by omega)
      rw [← s1, ← s2] at H
      clear s1 s2 EA EB eN eD hC hT hU hQ ht C'
      have u1 := mul_in' (A := 5000000000000) (B := 50) b5 b6 (show 0 ≤ (k : Int) by omega) (by omega)
      have u2 := mul_in' (A := 500000) (B := 500000000) b1 b2 b3 b4
      have u3 := mul_in (A := 50) (B := 5000000000) (show 0 ≤ (k : Int) by omega) (by omega) b7 b8
      rw [Int.mul_comm U k] at u1
      obtain ⟨u4, u5⟩ := u1; obtain ⟨u6, u7⟩ := u2; obtain ⟨u8, u9⟩ := u3
      have u10 : -9000000000000 ≤ C * C ∧ C * C ≤ 9000000000000 := by omega
      obtain ⟨u10, u11⟩ := u10
      obtain ⟨r1, r2⟩ := fracN_le (k * U - C * T) (k * Q - C * C) f1
      obtain ⟨r3, r4⟩ := fracD_le (k * U - C * T) (k * Q - C * C) f3
      have z := fit_last C T (k * U - C * T) (k * Q - C * C) (fracN (k * U - C * T) (k * Q - C * C)) (fracD (k * U - C * T) (k * Q - C * C)) k b1 b2 b3 b4 n1 n2 r1 r2 f2 r3 r4 f4
      go_wp2_with (first | (go_at_call 55; refine (lowest_c _ _ (by omega) (by omega) (by omega) (by omega) _).mono ?_; rintro ee ww ⟨rfl, g1, rfl⟩))
      have HF := Lib.hid H.out
      clear H
      generalize fracN (k * U - C * T) (k * Q - C * C) = a9 at *
      generalize fracD (k * U - C * T) (k * Q - C * C) = b9 at *
      obtain ⟨z1, z2, z3, z4, z5, z6⟩ := z
      have v1 : IntKind.i64.wrap (T * b9) = T * b9 := IntWalk.i64_in _ (by omega)
      have v2 : IntKind.i64.wrap (a9 * C) = a9 * C := IntWalk.i64_in _ (by omega)
      have v2' : IntKind.i64.wrap (C * a9) = a9 * C := by rw [Int.mul_comm C a9]; exact v2
      have v3 : IntKind.i64.wrap (T * b9 - a9 * C) = T * b9 - a9 * C := IntWalk.i64_in _ (by omega)
      have v4 : IntKind.i64.wrap (k * b9) = k * b9 := IntWalk.i64_in _ (by omega)
      have y0 : w.heap.size + 1 < (ext (ext ((w.alloc (Obj.cells #[.int .i64 0, .int .i64 0] 37)).alloc (Obj.cells #[.int .i64 0, .int .i64 0] 37)) g) g1).heap.size := by
        have := ext_size (ext ((w.alloc (Obj.cells #[.int .i64 0, .int .i64 0] 37)).alloc (Obj.cells #[.int .i64 0, .int .i64 0] 37)) g) g1
        have := ext_size ((w.alloc (Obj.cells #[.int .i64 0, .int .i64 0] 37)).alloc (Obj.cells #[.int .i64 0, .int .i64 0] 37)) g
        simp at *; omega
      have y1 : ¬ (ext (ext ((w.alloc (Obj.cells #[.int .i64 0, .int .i64 0] 37)).alloc (Obj.cells #[.int .i64 0, .int .i64 0] 37)) g) g1).heap.size = w.heap.size := by omega
      have y2 : ¬ (ext (ext ((w.alloc (Obj.cells #[.int .i64 0, .int .i64 0] 37)).alloc (Obj.cells #[.int .i64 0, .int .i64 0] 37)) g) g1).heap.size = w.heap.size + 1 := by omega
      go_region_held3 (fun x => x.cell? ⟨(ext (ext ((w.alloc (Obj.cells #[.int .i64 0, .int .i64 0] 37)).alloc (Obj.cells #[.int .i64 0, .int .i64 0] 37)) g) g1).heap.size, 0, none⟩ = some (.int .i64 a9) ∧ x.cell? ⟨(ext (ext ((w.alloc (Obj.cells #[.int .i64 0, .int .i64 0] 37)).alloc (Obj.cells #[.int .i64 0, .int .i64 0] 37)) g) g1).heap.size, 1, none⟩ = some (.int .i64 b9)) (simp [go_sem, *]) (first | (go_at_call 55; refine (lowest_c _ _ (by omega) (by omega) (by omega) (by omega) _).mono ?_; rintro ee ww ⟨rfl, g2, rfl⟩))
      all_goals go_wp2
      have k0 : (ext ((ext (ext ((w.alloc (Obj.cells #[.int .i64 0, .int .i64 0] 37)).alloc (Obj.cells #[.int .i64 0, .int .i64 0] 37)) g) g1).alloc (Obj.cells #[.int .i64 a9, .int .i64 b9] 37)).drew g2).cell? ⟨w.heap.size, 0, none⟩ = some (.int .i64 0) := by simp [go_sem]
      have k1 : (ext ((ext (ext ((w.alloc (Obj.cells #[.int .i64 0, .int .i64 0] 37)).alloc (Obj.cells #[.int .i64 0, .int .i64 0] 37)) g) g1).alloc (Obj.cells #[.int .i64 a9, .int .i64 b9] 37)).drew g2).cell? ⟨w.heap.size, 1, none⟩ = some (.int .i64 0) := by simp [go_sem]
      have k2 : (ext ((ext (ext ((w.alloc (Obj.cells #[.int .i64 0, .int .i64 0] 37)).alloc (Obj.cells #[.int .i64 0, .int .i64 0] 37)) g) g1).alloc (Obj.cells #[.int .i64 a9, .int .i64 b9] 37)).drew g2).cell? ⟨w.heap.size + 1, 0, none⟩ = some (.int .i64 0) := by simp [go_sem]
      have k3 : (ext ((ext (ext ((w.alloc (Obj.cells #[.int .i64 0, .int .i64 0] 37)).alloc (Obj.cells #[.int .i64 0, .int .i64 0] 37)) g) g1).alloc (Obj.cells #[.int .i64 a9, .int .i64 b9] 37)).drew g2).cell? ⟨w.heap.size + 1, 1, none⟩ = some (.int .i64 0) := by simp [go_sem]
      refine bodyPost_ret (v := .tuple #[.agg #[.int .i64 (fracN (T * b9 - a9 * C) (k * b9)), .int .i64 (fracD (T * b9 - a9 * C) (k * b9))], .agg #[.int .i64 a9, .int .i64 b9], .int .i64 0]) (by simp [results, Try.results43, go_sem, k0, k1, k2, k3]) rfl (Ret.mk ?_ (?_ : Bel _ _))
      · exact HF.out
      · (repeat (first | exact Bel.refl _ | apply Bel.ext | apply Bel.alloc | apply Bel.drew | refine Bel.set ?_ (by first | (simp; done) | (simp [go_sem]; done) | omega) _))
end Go.Proofs.Ytlnpfggcmjljbaa
