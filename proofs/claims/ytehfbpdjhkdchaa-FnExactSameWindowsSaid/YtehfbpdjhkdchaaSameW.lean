/- Whether two lists of windows are equal: what both sides return. -/
import Derived.Test.YtehfbpdjhkdchaaWindows
import Derived.Laws.StructEq
namespace Go.Proofs.Ytehfbpdjhkdchaa
open Go.RowKit

theorem neqW (a b c d : Int) (w : World) : (binOp .neq 44 (.agg #[.int .i64 a, .int .i64 b]) (.agg #[.int .i64 c, .int .i64 d])).run Try.prog w = .ok (.bool (!(a == c && b == d))) w := by
  have u2 := Try.underlying2
  have a2 := Try.isAgg2
  have z2 := Try.sizeOf2
  have hS : Try.prog.underlying 44 = some (.struct (Try.prog.fieldsOf 44)) := by kernel_rfl
  have hp : Try.prog.stoodInHeld 44 = false := by kernel_rfl
  rw [run_neq_struct, show (10000 : Nat) = 9999 + 1 from rfl, run_equalIn_agg w 9999 44 _ _ hS hp]
  simp only [Program.fieldsOf, Try.underlying44]
  go_simp
  by_cases h1 : a = c <;> by_cases h2 : b = d <;> simp [h1, h2]

set_option maxHeartbeats 2000000 in
theorem EqualWindow_c (u v : Value) (xs ys : List (Int × Int)) (w : World) (hu : Rd cel2 w u xs) (hv : Rd cel2 w v ys) :
    Calls Try.prog 46 #[u, v] w (Ret (.bool (decide (xs = ys))) w) := by
  refine hide_ret fun r H => ?_
  obtain ⟨a, n, c, rfl, hs⟩ := hu.sl
  obtain ⟨a', n', c', rfl, hs'⟩ := hv.sl
  have hcap := hs.le; have hmax := hs.cap; have hcap' := hs'.le; have hmax' := hs'.cap
  unfold maxLen at hmax hmax'
  by_cases hn : n = n'
  · subst hn
    have hb : ((n : Int) != n) = false := by simp
    go_enter Try.func46, Try.ntmps46
    go_wp2
    go_loopw [5, 13] (fun _ i wr => ∃ k : Nat, k ≤ n ∧ i = .int .i64 k ∧ (∃ g, wr = ext w g) ∧ Hid (r = .bool (decide (xs.drop k = ys.drop k)))) (fun _ i _ => n - (intOf i).toNat)
    case atStart => exact ⟨0, Nat.zero_le _, rfl, ext_ex (Bel.refl _), Lib.hid (by rw [← H.out]; rfl)⟩
    case round =>
      obtain ⟨k, hk, rfl, ⟨g, rfl⟩, hr⟩ := hrel
      by_cases hlt : k < n
      · obtain ⟨b, off, rfl, hb1⟩ := hs.base hlt
        obtain ⟨b', off', rfl, hb2⟩ := hs'.base hlt
        obtain ⟨x, y, hx, hc0, hc1⟩ := hs.at2 hlt
        obtain ⟨x', y', hy, hd0, hd1⟩ := hs'.at2 hlt
        have hq := neqW x y x' y'
        rcases hxy : (x == x' && y == y') with _ | _
        · have hne : (x, y) ≠ (x', y') := by intro e; simp only [Prod.mk.injEq] at e; simp [e] at hxy
          have Hne := Lib.hid hne
          rw [hxy] at hq
          simp only [Bool.not_false] at hq
          clear hne hxy
          go_wp2_with fail
          refine region_ext (by kernel_rfl) (by kernel_rfl) ?_
          repeat (go_big_quiet_step (fail))
          refine wpQuiet_nil ?_
          rintro _ ⟨_, rfl⟩
          go_wp2
          go_ret
          refine Ret.mk ?_ (?_ : Bel _ _)
          · rw [hr.out, drop_cons_of hx.out, drop_cons_of hy.out]
            rw [decide_eq_false (fun e => Hne.out (List.cons.inj e).1)]; rfl
          · (repeat (first | exact Bel.refl _ | apply Bel.ext | apply Bel.alloc | apply Bel.drew | refine Bel.set ?_ (by first | (simp; done) | (simp [go_sem]; done) | omega) _))
        · have hne : (x, y) = (x', y') := by simp only [Bool.and_eq_true, beq_iff_eq] at hxy; simp only [Prod.mk.injEq]; omega
          have Hne := Lib.hid hne
          rw [hxy] at hq
          simp only [Bool.not_true] at hq
          clear hne hxy
          go_wp2_with fail
          refine region_ext (by kernel_rfl) (by kernel_rfl) ?_
          repeat (go_big_quiet_step (fail))
          refine wpQuiet_nil ?_
          rintro _ ⟨_, rfl⟩
          go_wp2
          go_roundw
          case rel =>
            refine ⟨k + 1, by omega, by go_num, ext_ex (by (repeat (first | exact Bel.refl _ | apply Bel.ext | apply Bel.alloc | apply Bel.drew | refine Bel.set ?_ (by first | (simp; done) | (simp [go_sem]; done) | omega) _)) : Bel _ _), Lib.hid ?_⟩
            rw [hr.out, drop_cons_of hx.out, drop_cons_of hy.out, Hne.out]; simp
          case measure => simp [intOf]; omega
      · go_wp2
        go_ret
        refine Ret.mk ?_ (?_ : Bel _ _)
        · rw [hr.out, List.drop_of_length_le (by have := hs.len; omega), List.drop_of_length_le (by have := hs'.len; omega)]; simp
        · (repeat (first | exact Bel.refl _ | apply Bel.ext | apply Bel.alloc | apply Bel.drew | refine Bel.set ?_ (by first | (simp; done) | (simp [go_sem]; done) | omega) _))
  · have hb : ((n : Int) != n') = true := by simp; omega
    go_enter Try.func46, Try.ntmps46
    go_wp2
    go_ret
    refine Ret.mk ?_ (?_ : Bel _ _)
    · rw [← H.out]; simp
      intro e; exact hn (by rw [hs.len, hs'.len, e])
    · (repeat (first | exact Bel.refl _ | apply Bel.ext | apply Bel.alloc | apply Bel.drew | refine Bel.set ?_ (by first | (simp; done) | (simp [go_sem]; done) | omega) _))

set_option maxHeartbeats 2000000 in
theorem l15Same_c (u v : Value) (xs ys : List (Int × Int)) (w : World) (hu : Rd cel2 w u xs) (hv : Rd cel2 w v ys) :
    Calls Try.prog 45 #[u, v] w (Ret (.bool (decide (xs = ys))) w) := by
  refine hide_ret fun r H => ?_
  obtain ⟨a, n, c, rfl, hs⟩ := hu.sl
  obtain ⟨a', n', c', rfl, hs'⟩ := hv.sl
  have hcap := hs.le; have hmax := hs.cap; have hcap' := hs'.le; have hmax' := hs'.cap
  unfold maxLen at hmax hmax'
  by_cases hn : n = n'
  · subst hn
    have hb : ((n : Int) != n) = false := by simp
    go_enter Try.func45, Try.ntmps45
    go_wp2
    go_loopw [5] (fun i wr => ∃ k : Nat, k ≤ n ∧ i = .int .i64 k ∧ (∃ g, wr = ext w g) ∧ Hid (r = .bool (decide (xs.drop k = ys.drop k)))) (fun i _ => n - (intOf i).toNat)
    case atStart => exact ⟨0, Nat.zero_le _, rfl, ext_ex (Bel.refl _), Lib.hid (by rw [← H.out]; rfl)⟩
    case round =>
      obtain ⟨k, hk, rfl, ⟨g, rfl⟩, hr⟩ := hrel
      by_cases hlt : k < n
      · obtain ⟨b, off, rfl, hb1⟩ := hs.base hlt
        obtain ⟨b', off', rfl, hb2⟩ := hs'.base hlt
        obtain ⟨x, y, hx, hc0, hc1⟩ := hs.at2 hlt
        obtain ⟨x', y', hy, hd0, hd1⟩ := hs'.at2 hlt
        have hq := neqW x y x' y'
        rcases hxy : (x == x' && y == y') with _ | _
        · have hne : (x, y) ≠ (x', y') := by intro e; simp only [Prod.mk.injEq] at e; simp [e] at hxy
          have Hne := Lib.hid hne
          rw [hxy] at hq
          simp only [Bool.not_false] at hq
          clear hne hxy
          go_wp2_with fail
          refine region_ext (by kernel_rfl) (by kernel_rfl) ?_
          repeat (go_big_quiet_step (fail))
          refine wpQuiet_nil ?_
          rintro _ ⟨_, rfl⟩
          go_wp2
          go_ret
          refine Ret.mk ?_ (?_ : Bel _ _)
          · rw [hr.out, drop_cons_of hx.out, drop_cons_of hy.out]
            rw [decide_eq_false (fun e => Hne.out (List.cons.inj e).1)]; rfl
          · (repeat (first | exact Bel.refl _ | apply Bel.ext | apply Bel.alloc | apply Bel.drew | refine Bel.set ?_ (by first | (simp; done) | (simp [go_sem]; done) | omega) _))
        · have hne : (x, y) = (x', y') := by simp only [Bool.and_eq_true, beq_iff_eq] at hxy; simp only [Prod.mk.injEq]; omega
          have Hne := Lib.hid hne
          rw [hxy] at hq
          simp only [Bool.not_true] at hq
          clear hne hxy
          go_wp2_with fail
          refine region_ext (by kernel_rfl) (by kernel_rfl) ?_
          repeat (go_big_quiet_step (fail))
          refine wpQuiet_nil ?_
          rintro _ ⟨_, rfl⟩
          go_wp2
          go_roundw
          case rel =>
            refine ⟨k + 1, by omega, by go_num, ext_ex (by (repeat (first | exact Bel.refl _ | apply Bel.ext | apply Bel.alloc | apply Bel.drew | refine Bel.set ?_ (by first | (simp; done) | (simp [go_sem]; done) | omega) _)) : Bel _ _), Lib.hid ?_⟩
            rw [hr.out, drop_cons_of hx.out, drop_cons_of hy.out, Hne.out]; simp
          case measure => simp [intOf]; omega
      · go_wp2
        go_ret
        refine Ret.mk ?_ (?_ : Bel _ _)
        · rw [hr.out, List.drop_of_length_le (by have := hs.len; omega), List.drop_of_length_le (by have := hs'.len; omega)]; simp
        · (repeat (first | exact Bel.refl _ | apply Bel.ext | apply Bel.alloc | apply Bel.drew | refine Bel.set ?_ (by first | (simp; done) | (simp [go_sem]; done) | omega) _))
  · have hb : ((n : Int) != n') = true := by simp; omega
    go_enter Try.func45, Try.ntmps45
    go_wp2
    go_ret
    refine Ret.mk ?_ (?_ : Bel _ _)
    · rw [← H.out]; simp
      intro e; exact hn (by rw [hs.len, hs'.len, e])
    · (repeat (first | exact Bel.refl _ | apply Bel.ext | apply Bel.alloc | apply Bel.drew | refine Bel.set ?_ (by first | (simp; done) | (simp [go_sem]; done) | omega) _))

set_option maxHeartbeats 2000000 in
theorem SameWindows_c (u v : Value) (xs ys : List (Int × Int)) (w : World) (hu : Rd cel2 w u xs) (hv : Rd cel2 w v ys) :
    Calls Try.prog 20 #[u, v] w (Ret (.bool (decide (xs = ys))) w) := by
  refine hide_ret fun r H => ?_
  have HC := Lib.hid (fun w hu hv => EqualWindow_c u v xs ys w hu hv)
  generalize decide (xs = ys) = q at *
  go_enter Try.func20, Try.ntmps20
  go_wp2_with (first | (go_at_call 46; refine Calls.mono (HC.out _ (hu.bel ?_) (hv.bel ?_)) ?_; (focus (repeat (first | exact Bel.refl _ | apply Bel.ext | apply Bel.alloc | apply Bel.drew))); (focus (repeat (first | exact Bel.refl _ | apply Bel.ext | apply Bel.alloc | apply Bel.drew))); rintro ee ww ⟨rfl, _, rfl⟩))
  go_ret
  refine Ret.mk ?_ (?_ : Bel _ _)
  · exact H.out
  · (repeat (first | exact Bel.refl _ | apply Bel.ext | apply Bel.alloc | apply Bel.drew | refine Bel.set ?_ (by first | (simp; done) | (simp [go_sem]; done) | omega) _))

set_option maxHeartbeats 2000000 in
theorem sSameWindows_c (u v : Value) (xs ys : List (Int × Int)) (w : World) (hu : Rd cel2 w u xs) (hv : Rd cel2 w v ys) :
    Calls Try.prog 19 #[u, v] w (Ret (.bool (decide (xs = ys))) w) := by
  refine hide_ret fun r H => ?_
  have HC := Lib.hid (fun w hu hv => l15Same_c u v xs ys w hu hv)
  generalize decide (xs = ys) = q at *
  go_enter Try.func19, Try.ntmps19
  go_wp2_with (first | (go_at_call 45; refine Calls.mono (HC.out _ (hu.bel ?_) (hv.bel ?_)) ?_; (focus (repeat (first | exact Bel.refl _ | apply Bel.ext | apply Bel.alloc | apply Bel.drew))); (focus (repeat (first | exact Bel.refl _ | apply Bel.ext | apply Bel.alloc | apply Bel.drew))); rintro ee ww ⟨rfl, _, rfl⟩))
  go_ret
  refine Ret.mk ?_ (?_ : Bel _ _)
  · exact H.out
  · (repeat (first | exact Bel.refl _ | apply Bel.ext | apply Bel.alloc | apply Bel.drew | refine Bel.set ?_ (by first | (simp; done) | (simp [go_sem]; done) | omega) _))
end Go.Proofs.Ytehfbpdjhkdchaa
