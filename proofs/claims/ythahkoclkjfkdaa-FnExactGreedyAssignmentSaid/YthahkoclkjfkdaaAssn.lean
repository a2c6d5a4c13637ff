/- Assignments: a number among others, no star told twice, the code of a list; program and reference. -/
import Derived.Test.YthahkoclkjfkdaaWorth
namespace Go.Proofs.Ythahkoclkjfkdaa
open Go.RowKit

theorem Sl.take {α : Type} {C : Cel α} {w : World} {a : Option Addr} {n c : Nat} {xs : List α} (h : Sl C w a n c xs) {k : Nat} (hk : k ≤ n) : Sl C w a k c (xs.take k) := by
  obtain ⟨h0, h1, h2, h3⟩ := h
  refine ⟨by rw [List.length_take]; omega, by omega, h2, fun hp => ?_⟩
  obtain ⟨b, off, rfl, hlt, hc⟩ := h3 (by omega)
  refine ⟨b, off, rfl, hlt, fun i x hx j u hu => hc i x ?_ j u hu⟩
  have : i < k := by have := (List.getElem?_eq_some_iff.1 hx).1; rw [List.length_take] at this; omega
  rw [List.getElem?_take_of_lt this] at hx; exact hx
theorem any_mem (x : Int) (xs : List Int) : (xs.any fun y => x == y) = decide (x ∈ xs) := by
  rw [Bool.eq_iff_iff]; simp
set_option maxHeartbeats 2000000 in
theorem IndexI_c (u : Value) (xs : List Int) (x : Int) (w : World) (hu : Rd celI w u xs) :
    Calls Try.prog 63 #[u, .int .i64 x] w (Ret (.int .i64 (idxFrom (fun y => x == y) 0 xs)) w) := by
  refine hide_ret fun v H => ?_
  obtain ⟨a, n, c, rfl, hs⟩ := hu.sl
  have hcap := hs.le; have hmax := hs.cap
  unfold maxLen at hmax
  have HL := Lib.hid hs.len
  go_enter Try.func63, Try.ntmps63
  go_wp2
  go_loopw [5, 8] (fun _ i wr => ∃ k : Nat, k ≤ n ∧ i = .int .i64 k ∧ (∃ g, wr = ext w g) ∧ Hid (v = .int .i64 (idxFrom (fun y => x == y) k (xs.drop k)))) (fun _ i _ => n - (intOf i).toNat)
  case atStart => exact ⟨0, Nat.zero_le _, rfl, ext_ex (Bel.refl _), Lib.hid (by rw [← H.out]; rfl)⟩
  case round =>
    obtain ⟨k, hk, rfl, ⟨g, rfl⟩, hv⟩ := hrel
    by_cases hlt : k < n
    · obtain ⟨b, off, rfl, hb⟩ := hs.base hlt
      obtain ⟨y, hy, hc⟩ := hs.at1 hlt
      rcases hq : (x == y) with _ | _
      · have HQ := Lib.hid hq
        go_wp2
        go_roundw
        case rel =>
          refine ⟨k + 1, by omega, by go_num, ext_ex (by (repeat (first | with_reducible exact Bel.refl _ | with_reducible assumption | apply Bel.ext | apply Bel.alloc | apply Bel.drew | exact Bel.refl _ | refine Bel.set ?_ (by first | (simp; done) | (simp [go_sem]; done) | omega) _)) : Bel _ _), Lib.hid ?_⟩
          rw [hv.out, drop_cons_of hy.out, idxFrom_miss HQ.out]; rfl
        case measure => simp [intOf]; omega
      · have HQ := Lib.hid hq
        go_wp2
        go_ret
        refine Ret.mk ?_ (?_ : Bel _ _)
        · rw [hv.out, drop_cons_of hy.out, idxFrom_hit HQ.out]; rfl
        · (repeat (first | with_reducible exact Bel.refl _ | with_reducible assumption | apply Bel.ext | apply Bel.alloc | apply Bel.drew | exact Bel.refl _ | refine Bel.set ?_ (by first | (simp; done) | (simp [go_sem]; done) | omega) _))
    · go_wp2
      go_ret
      refine Ret.mk ?_ (?_ : Bel _ _)
      · rw [hv.out, List.drop_of_length_le (by rw [← HL.out]; omega)]; rfl
      · (repeat (first | with_reducible exact Bel.refl _ | with_reducible assumption | apply Bel.ext | apply Bel.alloc | apply Bel.drew | exact Bel.refl _ | refine Bel.set ?_ (by first | (simp; done) | (simp [go_sem]; done) | omega) _))
set_option maxHeartbeats 1000000 in
theorem ContainsI_c (u : Value) (xs : List Int) (x : Int) (w : World) (hu : Rd celI w u xs) :
    Calls Try.prog 58 #[u, .int .i64 x] w (Ret (.bool (decide (x ∈ xs))) w) := by
  rw [← any_mem, ← idxFrom_any _ xs 0 (Int.le_refl _)]
  refine hide_ret fun v H => ?_
  have HC := Lib.hid (fun w hu => IndexI_c u xs x w hu)
  generalize idxFrom (fun y => x == y) 0 xs = r at *
  by_cases h0 : 0 ≤ r
  all_goals
    go_enter Try.func58, Try.ntmps58
    go_wp2_with (first | (go_at_call 63; refine Calls.mono (HC.out _ (hu.bel ?_)) ?_; (focus (repeat (first | with_reducible exact Bel.refl _ | with_reducible assumption | apply Bel.ext | apply Bel.alloc | apply Bel.drew | exact Bel.refl _))); rintro ee ww ⟨rfl, _, rfl⟩))
    go_ret
    refine Ret.mk ?_ (?_ : Bel _ _)
    · rw [← H.out]; simp [h0]
    · (repeat (first | with_reducible exact Bel.refl _ | with_reducible assumption | apply Bel.ext | apply Bel.alloc | apply Bel.drew | exact Bel.refl _ | refine Bel.set ?_ (by first | (simp; done) | (simp [go_sem]; done) | omega) _))
set_option maxHeartbeats 1000000 in
theorem l00Has_c (u : Value) (xs : List Int) (x : Int) (w : World) (hu : Rd celI w u xs) :
    Calls Try.prog 56 #[u, .int .i64 x] w (Ret (.bool (decide (x ∈ xs))) w) := by
  rw [← any_mem]
  refine hide_ret fun v H => ?_
  obtain ⟨a, n, c, rfl, hs⟩ := hu.sl
  have hcap := hs.le; have hmax := hs.cap
  unfold maxLen at hmax
  have HL := Lib.hid hs.len
  go_enter Try.func56, Try.ntmps56
  go_wp2
  go_loopw [5] (fun i wr => ∃ k : Nat, k ≤ n ∧ i = .int .i64 k ∧ (∃ g, wr = ext w g) ∧ Hid (v = .bool ((xs.drop k).any (fun y => x == y)))) (fun i _ => n - (intOf i).toNat)
  case atStart => exact ⟨0, Nat.zero_le _, rfl, ext_ex (Bel.refl _), Lib.hid (by rw [← H.out]; rfl)⟩
  case round =>
    obtain ⟨k, hk, rfl, ⟨g, rfl⟩, hv⟩ := hrel
    by_cases hlt : k < n
    · obtain ⟨b, off, rfl, hb⟩ := hs.base hlt
      obtain ⟨y, hy, hc⟩ := hs.at1 hlt
      rcases hq : (y == x) with _ | _
      · have HQ := Lib.hid (show (x == y) = false by rw [BEq.comm]; exact hq)
        go_wp2
        go_roundw
        case rel =>
          refine ⟨k + 1, by omega, by go_num, ext_ex (by (repeat (first | with_reducible exact Bel.refl _ | with_reducible assumption | apply Bel.ext | apply Bel.alloc | apply Bel.drew | exact Bel.refl _ | refine Bel.set ?_ (by first | (simp; done) | (simp [go_sem]; done) | omega) _)) : Bel _ _), Lib.hid ?_⟩
          rw [hv.out, drop_cons_of hy.out, List.any_cons, HQ.out]; rfl
        case measure => simp [intOf]; omega
      · have HQ := Lib.hid (show (x == y) = true by rw [BEq.comm]; exact hq)
        go_wp2
        go_ret
        refine Ret.mk ?_ (?_ : Bel _ _)
        · rw [hv.out, drop_cons_of hy.out, List.any_cons, HQ.out]; rfl
        · (repeat (first | with_reducible exact Bel.refl _ | with_reducible assumption | apply Bel.ext | apply Bel.alloc | apply Bel.drew | exact Bel.refl _ | refine Bel.set ?_ (by first | (simp; done) | (simp [go_sem]; done) | omega) _))
    · go_wp2
      go_ret
      refine Ret.mk ?_ (?_ : Bel _ _)
      · rw [hv.out, List.drop_of_length_le (by rw [← HL.out]; omega)]; rfl
      · (repeat (first | with_reducible exact Bel.refl _ | with_reducible assumption | apply Bel.ext | apply Bel.alloc | apply Bel.drew | exact Bel.refl _ | refine Bel.set ?_ (by first | (simp; done) | (simp [go_sem]; done) | omega) _))
set_option maxHeartbeats 2000000 in
theorem isAssignment_c (u : Value) (xs : List Int) (w : World) (hu : Rd celI w u xs) :
    Calls Try.prog 52 #[u] w (Ret (.bool (apartB xs 0 xs)) w) := by
  refine hide_ret fun v H => ?_
  obtain ⟨a, n, c, rfl, hs⟩ := hu.sl
  have hcap := hs.le; have hmax := hs.cap
  unfold maxLen at hmax
  have HL := Lib.hid hs.len
  go_enter Try.func52, Try.ntmps52
  go_wp2
  go_loopw [3, 4, 7] (fun _ _ i wr => ∃ k : Nat, k ≤ n ∧ i = .int .i64 k ∧ (∃ g, wr = ext w g) ∧ Hid (v = .bool (apartB xs k (xs.drop k)))) (fun _ _ i _ => n - (intOf i).toNat)
  case atStart => exact ⟨0, Nat.zero_le _, rfl, ext_ex (Bel.refl _), Lib.hid (by rw [← H.out]; rfl)⟩
  case round =>
    obtain ⟨k, hk, rfl, ⟨g, rfl⟩, hv⟩ := hrel
    by_cases hlt : k < n
    · have hst := hs.take (k := k) hk
      obtain ⟨b, off, rfl, hb⟩ := hs.base hlt
      obtain ⟨y, hy, hc⟩ := hs.at1 hlt
      have HS := Lib.hid (fun x (hx : Bel w x) => ContainsI_c _ (xs.take k) y x (hst.rd.bel hx))
      have hvv := hv.out
      rw [drop_cons_of hy.out, apartB] at hvv
      have z1 : (0 : Int) ≤ k := by omega
      have z2 : (k : Int) ≤ n := by omega
      have z3 : (k : Int) ≤ c := by omega
      generalize decide (y ∈ xs.take k) = q at *
      clear hv
      by_cases hq : 0 ≤ y
      · rw [decide_eq_true hq] at hvv
        cases q
        · have HV := Lib.hid hvv
          clear hvv
          go_wp2_with (first | (go_at_call 58; refine Calls.mono (HS.out _ ?_) ?_; (focus (repeat (first | with_reducible exact Bel.refl _ | with_reducible assumption | apply Bel.ext | apply Bel.alloc | apply Bel.drew | exact Bel.refl _))); rintro ee ww ⟨rfl, _, rfl⟩))
          go_roundw
          case rel =>
            refine ⟨k + 1, by omega, by go_num, ext_ex (by (repeat (first | with_reducible exact Bel.refl _ | with_reducible assumption | apply Bel.ext | apply Bel.alloc | apply Bel.drew | exact Bel.refl _ | refine Bel.set ?_ (by first | (simp; done) | (simp [go_sem]; done) | omega) _)) : Bel _ _), Lib.hid ?_⟩
            rw [HV.out]; simp
          case measure => simp [intOf]; omega
        · have HV := Lib.hid hvv
          clear hvv
          go_wp2_with (first | (go_at_call 58; refine Calls.mono (HS.out _ ?_) ?_; (focus (repeat (first | with_reducible exact Bel.refl _ | with_reducible assumption | apply Bel.ext | apply Bel.alloc | apply Bel.drew | exact Bel.refl _))); rintro ee ww ⟨rfl, _, rfl⟩))
          go_ret
          refine Ret.mk ?_ (?_ : Bel _ _)
          · rw [HV.out]; simp
          · (repeat (first | with_reducible exact Bel.refl _ | with_reducible assumption | apply Bel.ext | apply Bel.alloc | apply Bel.drew | exact Bel.refl _ | refine Bel.set ?_ (by first | (simp; done) | (simp [go_sem]; done) | omega) _))
      · rw [decide_eq_false hq] at hvv
        have HV := Lib.hid hvv
        clear hvv
        go_wp2
        go_roundw
        case rel =>
          refine ⟨k + 1, by omega, by go_num, ext_ex (by (repeat (first | with_reducible exact Bel.refl _ | with_reducible assumption | apply Bel.ext | apply Bel.alloc | apply Bel.drew | exact Bel.refl _ | refine Bel.set ?_ (by first | (simp; done) | (simp [go_sem]; done) | omega) _)) : Bel _ _), Lib.hid ?_⟩
          rw [HV.out]; simp
        case measure => simp [intOf]; omega
    · go_wp2
      go_ret
      refine Ret.mk ?_ (?_ : Bel _ _)
      · rw [hv.out, List.drop_of_length_le (by rw [← HL.out]; omega)]; rfl
      · (repeat (first | with_reducible exact Bel.refl _ | with_reducible assumption | apply Bel.ext | apply Bel.alloc | apply Bel.drew | exact Bel.refl _ | refine Bel.set ?_ (by first | (simp; done) | (simp [go_sem]; done) | omega) _))
set_option maxHeartbeats 2000000 in
theorem l17Apart_c (u : Value) (xs : List Int) (w : World) (hu : Rd celI w u xs) :
    Calls Try.prog 50 #[u] w (Ret (.bool (apartB xs 0 xs)) w) := by
  refine hide_ret fun v H => ?_
  obtain ⟨a, n, c, rfl, hs⟩ := hu.sl
  have hcap := hs.le; have hmax := hs.cap
  unfold maxLen at hmax
  have HL := Lib.hid hs.len
  go_enter Try.func50, Try.ntmps50
  go_wp2
  go_loopw [3] (fun i wr => ∃ k : Nat, k ≤ n ∧ i = .int .i64 k ∧ (∃ g, wr = ext w g) ∧ Hid (v = .bool (apartB xs k (xs.drop k)))) (fun i _ => n - (intOf i).toNat)
  case atStart => exact ⟨0, Nat.zero_le _, rfl, ext_ex (Bel.refl _), Lib.hid (by rw [← H.out]; rfl)⟩
  case round =>
    obtain ⟨k, hk, rfl, ⟨g, rfl⟩, hv⟩ := hrel
    by_cases hlt : k < n
    · have hst := hs.take (k := k) hk
      obtain ⟨b, off, rfl, hb⟩ := hs.base hlt
      obtain ⟨y, hy, hc⟩ := hs.at1 hlt
      have HS := Lib.hid (fun x (hx : Bel w x) => l00Has_c _ (xs.take k) y x (hst.rd.bel hx))
      have hvv := hv.out
      rw [drop_cons_of hy.out, apartB] at hvv
      have z1 : (0 : Int) ≤ k := by omega
      have z2 : (k : Int) ≤ n := by omega
      have z3 : (k : Int) ≤ c := by omega
      generalize decide (y ∈ xs.take k) = q at *
      clear hv
      by_cases hq : 0 ≤ y
      · rw [decide_eq_true hq] at hvv
        cases q
        · have HV := Lib.hid hvv
          clear hvv
          go_wp2_with fail
          refine region_ext (by kernel_rfl) (by kernel_rfl) ?_
          repeat (go_big_quiet_step (first | (go_at_call 56; exact Calls.in_ret (HS.out _ (by (repeat (first | exact Bel.refl _ | apply Bel.ext | apply Bel.alloc | apply Bel.drew)))))))
          refine wpQuiet_nil ?_
          rintro _ ⟨_, rfl⟩
          go_wp2
          go_roundw
          case rel =>
            refine ⟨k + 1, by omega, by go_num, ext_ex (by (repeat (first | with_reducible exact Bel.refl _ | with_reducible assumption | apply Bel.ext | apply Bel.alloc | apply Bel.drew | exact Bel.refl _ | refine Bel.set ?_ (by first | (simp; done) | (simp [go_sem]; done) | omega) _)) : Bel _ _), Lib.hid ?_⟩
            rw [HV.out]; simp
          case measure => simp [intOf]; omega
        · have HV := Lib.hid hvv
          clear hvv
          go_wp2_with fail
          refine region_ext (by kernel_rfl) (by kernel_rfl) ?_
          repeat (go_big_quiet_step (first | (go_at_call 56; exact Calls.in_ret (HS.out _ (by (repeat (first | exact Bel.refl _ | apply Bel.ext | apply Bel.alloc | apply Bel.drew)))))))
          refine wpQuiet_nil ?_
          rintro _ ⟨_, rfl⟩
          go_wp2
          go_ret
          refine Ret.mk ?_ (?_ : Bel _ _)
          · rw [HV.out]; simp
          · (repeat (first | with_reducible exact Bel.refl _ | with_reducible assumption | apply Bel.ext | apply Bel.alloc | apply Bel.drew | exact Bel.refl _ | refine Bel.set ?_ (by first | (simp; done) | (simp [go_sem]; done) | omega) _))
      · rw [decide_eq_false hq] at hvv
        have HV := Lib.hid hvv
        clear hvv
        have hqz : decide (0 ≤ y) = false := by simp; omega
        go_wp2_with fail
        refine region_ext (by kernel_rfl) (by kernel_rfl) ?_
        repeat (go_big_quiet_step (fail))
        refine wpQuiet_nil ?_
        rintro _ ⟨_, rfl⟩
        go_wp2
        go_roundw
        case rel =>
          refine ⟨k + 1, by omega, by go_num, ext_ex (by (repeat (first | with_reducible exact Bel.refl _ | with_reducible assumption | apply Bel.ext | apply Bel.alloc | apply Bel.drew | exact Bel.refl _ | refine Bel.set ?_ (by first | (simp; done) | (simp [go_sem]; done) | omega) _)) : Bel _ _), Lib.hid ?_⟩
          rw [HV.out]; simp
        case measure => simp [intOf]; omega
    · go_wp2
      go_ret
      refine Ret.mk ?_ (?_ : Bel _ _)
      · rw [hv.out, List.drop_of_length_le (by rw [← HL.out]; omega)]; rfl
      · (repeat (first | with_reducible exact Bel.refl _ | with_reducible assumption | apply Bel.ext | apply Bel.alloc | apply Bel.drew | exact Bel.refl _ | refine Bel.set ?_ (by first | (simp; done) | (simp [go_sem]; done) | omega) _))
end Go.Proofs.Ythahkoclkjfkdaa
