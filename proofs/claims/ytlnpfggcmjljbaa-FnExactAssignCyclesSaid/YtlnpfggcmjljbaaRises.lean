/- Numbers that rise within bounds: what both sides say. -/
import Derived.Test.YtlnpfggcmjljbaaPred
namespace Go.Proofs.Ytlnpfggcmjljbaa
open Go.RowKit

def riseOk (l h : Int) (prev : Option Int) : List Int → Bool
  | [] => true
  | x :: r => inB x l h && (match prev with | none => true | some p => decide (p < x)) && riseOk l h (some x) r
def riseB : List Int → Bool
  | [] => true
  | [_] => true
  | x :: y :: r => decide (x < y) && riseB (y :: r)
theorem allInB_cons (x : Int) (r : List Int) (l h : Int) : allInB (x :: r) l h = (inB x l h && allInB r l h) := by simp [allInB]
theorem riseOk_some (l h : Int) : ∀ (xs : List Int) (p : Int), riseOk l h (some p) xs = (allInB xs l h && riseB (p :: xs))
  | [], p => by simp [riseOk, riseB, allInB]
  | x :: r, p => by
    rw [riseOk, riseOk_some l h r x, allInB_cons]
    simp only [riseB]
    rcases inB x l h with _ | _ <;> rcases allInB r l h with _ | _ <;> simp
theorem riseOk_none (l h : Int) (xs : List Int) : riseOk l h none xs = (allInB xs l h && riseB xs) := by
  cases xs with
  | nil => simp [riseOk, riseB, allInB]
  | cons x r =>
    rw [riseOk, riseOk_some, allInB_cons]
    rcases inB x l h with _ | _ <;> simp
theorem riseB_step {xs : List Int} {k : Nat} {x y : Int} (h0 : xs[k]? = some x) (h1 : xs[k + 1]? = some y) : riseB (xs.drop k) = (decide (x < y) && riseB (xs.drop (k + 1))) := by
  rw [drop_cons_of h0, drop_cons_of h1]; rfl
theorem riseB_end {xs : List Int} {k : Nat} (h : xs.length ≤ k + 1) : riseB (xs.drop k) = true := by
  rcases Nat.lt_or_ge k xs.length with h1 | h1
  · have hx : xs[k]? = some xs[k] := by simp
    rw [drop_cons_of hx, List.drop_of_length_le h]; rfl
  · rw [List.drop_of_length_le h1]; rfl
def timesB (xs : List Int) : Bool := decide (xs.length ≤ 50) && riseOk 0 10000000 none xs
theorem timesB_eq (xs : List Int) : timesB xs = (decide (xs.length ≤ 50) && (allInB xs 0 10000000 && riseB xs)) := by unfold timesB; rw [riseOk_none]
theorem timesB_len {xs : List Int} (h : timesB xs = true) : xs.length ≤ 50 := by simp [timesB] at h; exact h.1
theorem timesB_get {xs : List Int} (h : timesB xs = true) {k : Nat} {x : Int} (hx : xs[k]? = some x) : 0 ≤ x ∧ x ≤ 10000000 := by
  rw [timesB_eq] at h
  simp only [Bool.and_eq_true] at h
  exact allInB_get h.2.1 hx
def prevI (xs : List Int) : Nat → Option Int
  | 0 => none
  | k + 1 => xs[k]?
theorem prevI_succ {xs : List Int} {k : Nat} {x : Int} (h : xs[k]? = some x) : prevI xs (k + 1) = some x := h
theorem prevI_pos {xs : List Int} {k : Nat} {x : Int} (h0 : 0 < k) (h : xs[k - 1]? = some x) : prevI xs k = some x := by obtain ⟨j, rfl⟩ : ∃ j, k = j + 1 := ⟨k - 1, by omega⟩; exact h

set_option maxHeartbeats 2000000 in
theorem areTimes_c (u : Value) (xs : List Int) (w : World) (hu : Rd celI w u xs) :
    Calls Try.prog 73 #[u, .int .i64 50] w (Ret (.bool (timesB xs)) w) := by
  refine hide_ret fun v H => ?_
  have hu' := hu
  obtain ⟨a, n, c, rfl, hs⟩ := hu'.sl
  have hcap := hs.le; have hmax := hs.cap
  unfold maxLen at hmax
  have HL := Lib.hid hs.len
  have HA := Lib.hid (fun w hu => allIn_c (.slice a n c) xs 0 10000000 w hu)
  rw [timesB_eq] at H
  by_cases hn : 50 < n
  · have e : decide (xs.length ≤ 50) = false := decide_eq_false (by rw [← HL.out]; omega)
    rw [e] at H
    clear e
    go_enter Try.func73, Try.ntmps73
    go_wp2
    go_ret
    exact Ret.mk H.out (Below.refl _ _)
  have e : decide (xs.length ≤ 50) = true := decide_eq_true (by rw [← HL.out]; omega)
  rw [e] at H
  rcases h1 : allInB xs 0 10000000 with _ | _ <;> simp only [h1] at H HA
  · clear e h1
    go_enter Try.func73, Try.ntmps73
    go_wp2_with (first | (go_at_call 66; refine Calls.mono (HA.out _ (hu.bel ?_)) ?_; (focus (repeat (first | exact Bel.refl _ | apply Bel.ext | apply Bel.alloc | apply Bel.drew))); rintro ee ww ⟨rfl, _, rfl⟩))
    go_ret
    refine Ret.mk ?_ (?_ : Bel _ _)
    · exact H.out
    · (repeat (first | exact Bel.refl _ | apply Bel.ext | apply Bel.alloc | apply Bel.drew | refine Bel.set ?_ (by first | (simp; done) | (simp [go_sem]; done) | omega) _))
  clear e h1
  simp only [Bool.true_and] at H
  go_enter Try.func73, Try.ntmps73
  go_wp2_with (first | (go_at_call 66; refine Calls.mono (HA.out _ (hu.bel ?_)) ?_; (focus (repeat (first | exact Bel.refl _ | apply Bel.ext | apply Bel.alloc | apply Bel.drew))); rintro ee ww ⟨rfl, _, rfl⟩))
  go_loopw [5] (fun i wr => ∃ k : Nat, k ≤ n ∧ i = .int .i64 ((k : Int) + 1) ∧ (∃ g, wr = ext w g) ∧ Hid (v = .bool (riseB (xs.drop k)))) (fun i _ => n - (intOf i).toNat)
  case atStart => exact ⟨0, Nat.zero_le _, by go_num, ext_ex (by (repeat (first | exact Bel.refl _ | apply Bel.ext | apply Bel.alloc | apply Bel.drew | refine Bel.set ?_ (by first | (simp; done) | (simp [go_sem]; done) | omega) _)) : Bel _ _), Lib.hid (by rw [← H.out]; rfl)⟩
  case round =>
    obtain ⟨k, hk, rfl, ⟨g, rfl⟩, hv⟩ := hrel
    by_cases hlt : k + 1 < n
    · obtain ⟨b, off, rfl, hb⟩ := hs.base hlt
      obtain ⟨x, hx, hc0⟩ := hs.at1 (k := k) (by omega)
      obtain ⟨y, hy, hd0⟩ := hs.at1 hlt
      have w1 : IntKind.i64.wrap ((k : Int) + 1 - 1) = (k : Int) := by rw [show (k : Int) + 1 - 1 = k from by omega]; exact IntWalk.i64_in _ (by omega)
      have hltz : (k : Int) + 1 < n := by omega
      have q1 : ((k : Int) + 1).toNat = k + 1 := by omega
      by_cases h3 : y ≤ x
      · go_wp2_with fail
        refine region_ext (by kernel_rfl) (by kernel_rfl) ?_
        repeat (go_big_quiet_step (fail))
        refine wpQuiet_nil ?_
        rintro _ ⟨_, rfl⟩
        go_wp2
        go_ret
        refine Ret.mk ?_ (?_ : Bel _ _)
        · rw [hv.out, riseB_step hx.out hy.out, show decide (x < y) = false from decide_eq_false (by omega)]; rfl
        · (repeat (first | exact Bel.refl _ | apply Bel.ext | apply Bel.alloc | apply Bel.drew | refine Bel.set ?_ (by first | (simp; done) | (simp [go_sem]; done) | omega) _))
      · go_wp2_with fail
        refine region_ext (by kernel_rfl) (by kernel_rfl) ?_
        repeat (go_big_quiet_step (fail))
        refine wpQuiet_nil ?_
        rintro _ ⟨_, rfl⟩
        clear w1 q1
        go_wp2
        go_roundw
        case rel =>
          refine ⟨k + 1, by omega, by go_num, ext_ex (by (repeat (first | exact Bel.refl _ | apply Bel.ext | apply Bel.alloc | apply Bel.drew | refine Bel.set ?_ (by first | (simp; done) | (simp [go_sem]; done) | omega) _)) : Bel _ _), Lib.hid ?_⟩
          rw [hv.out, riseB_step hx.out hy.out, show decide (x < y) = true from decide_eq_true (by omega)]; simp
        case measure => simp [intOf]; omega
    · have hltz : ¬ (k : Int) + 1 < n := by omega
      go_wp2
      go_ret
      refine Ret.mk ?_ (?_ : Bel _ _)
      · rw [hv.out, riseB_end (by rw [← HL.out]; omega)]
        try rfl
      · (repeat (first | exact Bel.refl _ | apply Bel.ext | apply Bel.alloc | apply Bel.drew | refine Bel.set ?_ (by first | (simp; done) | (simp [go_sem]; done) | omega) _))
set_option maxHeartbeats 2000000 in
theorem l00Rises_c (u : Value) (xs : List Int) (l h : Int) (w : World) (hu : Rd celI w u xs) :
    Calls Try.prog 71 #[u, .int .i64 l, .int .i64 h] w (Ret (.bool (riseOk l h none xs)) w) := by
  refine hide_ret fun v H => ?_
  obtain ⟨a, n, c, rfl, hs⟩ := hu.sl
  have hcap := hs.le; have hmax := hs.cap
  unfold maxLen at hmax
  have HL := Lib.hid hs.len
  go_enter Try.func71, Try.ntmps71
  go_wp2
  go_loopw [7] (fun i wr => ∃ k : Nat, k ≤ n ∧ i = .int .i64 k ∧ (∃ g, wr = ext w g) ∧ Hid (v = .bool (riseOk l h (prevI xs k) (xs.drop k)))) (fun i _ => n - (intOf i).toNat)
  case atStart => exact ⟨0, Nat.zero_le _, rfl, ext_ex (Bel.refl _), Lib.hid (by rw [← H.out]; rfl)⟩
  case round =>
    obtain ⟨k, hk, rfl, ⟨g, rfl⟩, hv⟩ := hrel
    by_cases hlt : k < n
    · obtain ⟨b, off, rfl, hb⟩ := hs.base hlt
      obtain ⟨x, hx, hc0⟩ := hs.at1 hlt
      rcases hq : inB x l h with _ | _
      · have HQ := Lib.hid hq
        have HC := Lib.hid (show ∀ w, Calls Try.prog 58 #[.int .i64 x, .int .i64 l, .int .i64 h] w (Same (.bool false) w) from fun w => hq ▸ l00In_c x l h w)
        clear hq
        go_wp2_with fail
        refine region_ext (by kernel_rfl) (by kernel_rfl) ?_
        repeat (go_big_quiet_step (first | (go_at_call 58; exact Calls.in_same (HC.out _))))
        refine wpQuiet_nil ?_
        rintro _ ⟨_, rfl⟩
        go_wp2
        go_ret
        refine Ret.mk ?_ (?_ : Bel _ _)
        · rw [hv.out, drop_cons_of hx.out]; simp [riseOk, HQ.out]
        · (repeat (first | exact Bel.refl _ | apply Bel.ext | apply Bel.alloc | apply Bel.drew | refine Bel.set ?_ (by first | (simp; done) | (simp [go_sem]; done) | omega) _))
      · have HQ := Lib.hid hq
        have HC := Lib.hid (show ∀ w, Calls Try.prog 58 #[.int .i64 x, .int .i64 l, .int .i64 h] w (Same (.bool true) w) from fun w => hq ▸ l00In_c x l h w)
        clear hq
        by_cases h0 : 0 < k
        · obtain ⟨x', hx', hd0⟩ := hs.at1 (k := k - 1) (by omega)
          have HP := Lib.hid (prevI_pos h0 hx'.out)
          have w1 : IntKind.i64.wrap ((k : Int) - 1) = (k : Int) - 1 := IntWalk.i64_in _ (by omega)
          by_cases h4 : x ≤ x'
          · go_wp2_with fail
            refine region_ext (by kernel_rfl) (by kernel_rfl) ?_
            repeat (go_big_quiet_step (first | (go_at_call 58; exact Calls.in_same (HC.out _))))
            refine wpQuiet_nil ?_
            rintro _ ⟨_, rfl⟩
            go_wp2
            go_ret
            refine Ret.mk ?_ (?_ : Bel _ _)
            · rw [hv.out, drop_cons_of hx.out, HP.out]; simp [riseOk, HQ.out]; omega
            · (repeat (first | exact Bel.refl _ | apply Bel.ext | apply Bel.alloc | apply Bel.drew | refine Bel.set ?_ (by first | (simp; done) | (simp [go_sem]; done) | omega) _))
          · go_wp2_with fail
            refine region_ext (by kernel_rfl) (by kernel_rfl) ?_
            repeat (go_big_quiet_step (first | (go_at_call 58; exact Calls.in_same (HC.out _))))
            refine wpQuiet_nil ?_
            rintro _ ⟨_, rfl⟩
            go_wp2
            go_roundw
            case rel =>
              refine ⟨k + 1, by omega, by go_num, ext_ex (by (repeat (first | exact Bel.refl _ | apply Bel.ext | apply Bel.alloc | apply Bel.drew | refine Bel.set ?_ (by first | (simp; done) | (simp [go_sem]; done) | omega) _)) : Bel _ _), Lib.hid ?_⟩
              rw [hv.out, drop_cons_of hx.out, HP.out, prevI_succ hx.out]; simp [riseOk, HQ.out, show x' < x from by omega]
            case measure => simp [intOf]; omega
        · have hd : decide (0 < (k : Int)) = false := by simp; omega
          go_wp2_with fail
          refine region_ext (by kernel_rfl) (by kernel_rfl) ?_
          repeat (go_big_quiet_step (first | (go_at_call 58; exact Calls.in_same (HC.out _))))
          refine wpQuiet_nil ?_
          rintro _ ⟨_, rfl⟩
          go_wp2
          go_roundw
          case rel =>
            refine ⟨k + 1, by omega, by go_num, ext_ex (by (repeat (first | exact Bel.refl _ | apply Bel.ext | apply Bel.alloc | apply Bel.drew | refine Bel.set ?_ (by first | (simp; done) | (simp [go_sem]; done) | omega) _)) : Bel _ _), Lib.hid ?_⟩
            have hp : prevI xs k = none := by rw [show k = 0 from by omega]; rfl
            rw [hv.out, drop_cons_of hx.out, hp, prevI_succ hx.out]; simp [riseOk, HQ.out]
          case measure => simp [intOf]; omega
    · go_wp2
      go_ret
      refine Ret.mk ?_ (?_ : Bel _ _)
      · rw [hv.out, List.drop_of_length_le (by rw [← HL.out]; omega)]; simp [riseOk]
        try rfl
      · (repeat (first | exact Bel.refl _ | apply Bel.ext | apply Bel.alloc | apply Bel.drew | refine Bel.set ?_ (by first | (simp; done) | (simp [go_sem]; done) | omega) _))
end Go.Proofs.Ytlnpfggcmjljbaa
