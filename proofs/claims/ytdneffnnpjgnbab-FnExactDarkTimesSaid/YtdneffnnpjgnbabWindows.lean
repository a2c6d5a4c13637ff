/- Lists of windows: which are valid, in the program and in the reference. -/
import Derived.Test.YtdneffnnpjgnbabBase
import Derived.Test.YtdneffnnpjgnbabRow
import Derived.Test.YtdneffnnpjgnbabRowWindow
namespace Go.Proofs.Ytdneffnnpjgnbab
open Go.RowKit

def winB (a b : Int) : Bool := timeB a && timeB b && decide (a ≤ b)
theorem winB_iff {a b : Int} : winB a b = true ↔ timeB a = true ∧ timeB b = true ∧ a ≤ b := by simp [winB, and_assoc]
def winOk (prev : Option (Int × Int)) : List (Int × Int) → Bool
  | [] => true
  | (x, y) :: r => winB x y && (match prev with | none => true | some p => decide (p.2 < x)) && winOk (some (x, y)) r
def windowsB (xs : List (Int × Int)) : Bool := decide (xs.length ≤ 30) && winOk none xs
def prevW (xs : List (Int × Int)) : Nat → Option (Int × Int)
  | 0 => none
  | k + 1 => xs[k]?
theorem prevW_succ {xs : List (Int × Int)} {k : Nat} {x : Int × Int} (h : xs[k]? = some x) : prevW xs (k + 1) = some x := h
theorem prevW_pos {xs : List (Int × Int)} {k : Nat} {x : Int × Int} (h0 : 0 < k) (h : xs[k - 1]? = some x) : prevW xs k = some x := by obtain ⟨j, rfl⟩ : ∃ j, k = j + 1 := ⟨k - 1, by omega⟩; exact h
theorem winOk_tail {prev : Option (Int × Int)} {x : Int × Int} {r : List (Int × Int)} (h : winOk prev (x :: r) = true) : winB x.1 x.2 = true ∧ winOk (some x) r = true := by
  obtain ⟨a, b⟩ := x
  simp [winOk] at h
  exact ⟨h.1.1, h.2⟩
theorem winOk_get : ∀ {xs : List (Int × Int)} {prev : Option (Int × Int)}, winOk prev xs = true → ∀ {k : Nat} {x : Int × Int}, xs[k]? = some x → winB x.1 x.2 = true
  | [], _, _, _, _, h => by simp at h
  | y :: r, _, hp, 0, x, h => by simp at h; subst h; exact (winOk_tail hp).1
  | y :: r, _, hp, k + 1, x, h => winOk_get (winOk_tail hp).2 (by simpa using h)
theorem windowsB_get {xs : List (Int × Int)} (h : windowsB xs = true) {k : Nat} {x : Int × Int} (hx : xs[k]? = some x) : 0 ≤ x.1 ∧ x.1 ≤ 10000000 ∧ 0 ≤ x.2 ∧ x.2 ≤ 10000000 ∧ x.1 ≤ x.2 := by
  simp [windowsB] at h
  obtain ⟨h1, h2, h3⟩ := winB_iff.1 (winOk_get h.2 hx)
  have := timeB_iff.1 h1; have := timeB_iff.1 h2; omega
theorem windowsB_len {xs : List (Int × Int)} (h : windowsB xs = true) : xs.length ≤ 30 := by simp [windowsB] at h; exact h.1

set_option maxHeartbeats 4000000 in
theorem ValidWindows_c (u : Value) (xs : List (Int × Int)) (w : World) (hu : Rd cel2 w u xs) :
    Calls Try.prog 22 #[u] w (Ret (.bool (windowsB xs)) w) := by
  refine hide_ret fun v H => ?_
  obtain ⟨a, n, c, rfl, hs⟩ := hu.sl
  have hcap := hs.le; have hmax := hs.cap
  unfold maxLen at hmax
  have HL := Lib.hid hs.len
  by_cases hn : 30 < n
  · go_enter Try.func22, Try.ntmps22
    go_wp2
    go_ret
    have e : decide (xs.length ≤ 30) = false := decide_eq_false (by rw [← HL.out]; omega)
    exact Ret.mk (by rw [← H.out, windowsB, e]; rfl) (Below.refl _ _)
  go_enter Try.func22, Try.ntmps22
  go_wp2
  go_loopw [10] (fun i wr => ∃ k : Nat, k ≤ n ∧ i = .int .i64 k ∧ (∃ g, wr = ext w g) ∧ Hid (v = .bool (decide (n ≤ 30) && winOk (prevW xs k) (xs.drop k)))) (fun i _ => n - (intOf i).toNat)
  case atStart => exact ⟨0, Nat.zero_le _, rfl, ext_ex (Bel.refl _), Lib.hid (by rw [← H.out, windowsB, HL.out]; rfl)⟩
  case round =>
    obtain ⟨k, hk, rfl, ⟨g, rfl⟩, hv⟩ := hrel
    by_cases hlt : k < n
    · obtain ⟨b, off, rfl, hb⟩ := hs.base hlt
      obtain ⟨x, y, hx, hc0, hc1⟩ := hs.at2 hlt
      rcases hB : winB x y with _ | _
      · have HB := Lib.hid hB
        rcases h1 : timeB x with _ | _ <;> rcases h2 : timeB y with _ | _ <;> by_cases h3 : y < x
        all_goals first
          | (exfalso; simp [winB, h1, h2] at hB; omega)
          | (clear hB
             go_wp2_with (first | (go_at_call 31; refine (ValidTime_c _ _).mono ?_; rintro ee ww ⟨rfl, rfl⟩))
             all_goals (try ((refine region_ext (by kernel_rfl) (by kernel_rfl) ?_; (repeat (go_big_quiet_step (first | (go_at_call 31; exact Calls.in_same (ValidTime_c _ _))))); refine wpQuiet_nil ?_; rintro _ ⟨_, rfl⟩); go_wp2_with (first | (go_at_call 31; refine (ValidTime_c _ _).mono ?_; rintro ee ww ⟨rfl, rfl⟩))))
             go_ret
             refine Ret.mk ?_ (?_ : Bel _ _)
             · rw [hv.out, drop_cons_of hx.out]; simp [winOk, HB.out]
             · (repeat (first | with_reducible exact Bel.refl _ | with_reducible assumption | apply Bel.ext | apply Bel.alloc | apply Bel.drew | exact Bel.refl _ | refine Bel.set ?_ (by first | (simp; done) | (simp [go_sem]; done) | omega) _)))
      · obtain ⟨h1, h2, h3'⟩ := winB_iff.1 hB
        have HB := Lib.hid hB
        have h3 : decide (y < x) = false := by simp; omega
        clear hB h3'
        by_cases h0 : 0 < k
        · obtain ⟨x', y', hx', hd0, hd1⟩ := hs.at2 (k := k - 1) (by omega)
          have HP := Lib.hid (prevW_pos h0 hx'.out)
          by_cases h4 : x ≤ y'
          · go_wp2_with (first | (go_at_call 31; refine (ValidTime_c _ _).mono ?_; rintro ee ww ⟨rfl, rfl⟩))
            all_goals (try ((refine region_ext (by kernel_rfl) (by kernel_rfl) ?_; (repeat (go_big_quiet_step (first | (go_at_call 31; exact Calls.in_same (ValidTime_c _ _))))); refine wpQuiet_nil ?_; rintro _ ⟨_, rfl⟩); go_wp2_with (first | (go_at_call 31; refine (ValidTime_c _ _).mono ?_; rintro ee ww ⟨rfl, rfl⟩))))
            go_ret
            refine Ret.mk ?_ (?_ : Bel _ _)
            · rw [hv.out, drop_cons_of hx.out, HP.out]; simp [winOk, HB.out]; omega
            · (repeat (first | with_reducible exact Bel.refl _ | with_reducible assumption | apply Bel.ext | apply Bel.alloc | apply Bel.drew | exact Bel.refl _ | refine Bel.set ?_ (by first | (simp; done) | (simp [go_sem]; done) | omega) _))
          · go_wp2_with (first | (go_at_call 31; refine (ValidTime_c _ _).mono ?_; rintro ee ww ⟨rfl, rfl⟩))
            all_goals (try ((refine region_ext (by kernel_rfl) (by kernel_rfl) ?_; (repeat (go_big_quiet_step (first | (go_at_call 31; exact Calls.in_same (ValidTime_c _ _))))); refine wpQuiet_nil ?_; rintro _ ⟨_, rfl⟩); go_wp2_with (first | (go_at_call 31; refine (ValidTime_c _ _).mono ?_; rintro ee ww ⟨rfl, rfl⟩))))
            go_roundw
            case rel =>
              refine ⟨k + 1, by omega, by go_num, ext_ex (by (repeat (first | with_reducible exact Bel.refl _ | with_reducible assumption | apply Bel.ext | apply Bel.alloc | apply Bel.drew | exact Bel.refl _ | refine Bel.set ?_ (by first | (simp; done) | (simp [go_sem]; done) | omega) _)) : Bel _ _), Lib.hid ?_⟩
              rw [hv.out, drop_cons_of hx.out, HP.out, prevW_succ hx.out]; simp [winOk, HB.out, show y' < x from by omega]
            case measure => simp [intOf]; omega
        · have hd : decide (0 < (k : Int)) = false := by simp; omega
          go_wp2_with (first | (go_at_call 31; refine (ValidTime_c _ _).mono ?_; rintro ee ww ⟨rfl, rfl⟩))
          all_goals (try ((refine region_ext (by kernel_rfl) (by kernel_rfl) ?_; (repeat (go_big_quiet_step (first | (go_at_call 31; exact Calls.in_same (ValidTime_c _ _))))); refine wpQuiet_nil ?_; rintro _ ⟨_, rfl⟩); go_wp2_with (first | (go_at_call 31; refine (ValidTime_c _ _).mono ?_; rintro ee ww ⟨rfl, rfl⟩))))
          go_roundw
          case rel =>
            refine ⟨k + 1, by omega, by go_num, ext_ex (by (repeat (first | with_reducible exact Bel.refl _ | with_reducible assumption | apply Bel.ext | apply Bel.alloc | apply Bel.drew | exact Bel.refl _ | refine Bel.set ?_ (by first | (simp; done) | (simp [go_sem]; done) | omega) _)) : Bel _ _), Lib.hid ?_⟩
            have hp : prevW xs k = none := by rw [show k = 0 from by omega]; rfl
            rw [hv.out, drop_cons_of hx.out, hp, prevW_succ hx.out]; simp [winOk, HB.out]
          case measure => simp [intOf]; omega
    · go_wp2
      go_ret
      refine Ret.mk ?_ (?_ : Bel _ _)
      · rw [hv.out, List.drop_of_length_le (by rw [← HL.out]; omega)]; simp [winOk]
        try first | rfl | omega
      · (repeat (first | with_reducible exact Bel.refl _ | with_reducible assumption | apply Bel.ext | apply Bel.alloc | apply Bel.drew | exact Bel.refl _ | refine Bel.set ?_ (by first | (simp; done) | (simp [go_sem]; done) | omega) _))
set_option maxHeartbeats 4000000 in
theorem l15Ok_c (u : Value) (xs : List (Int × Int)) (w : World) (hu : Rd cel2 w u xs) :
    Calls Try.prog 26 #[u] w (Ret (.bool (windowsB xs)) w) := by
  refine hide_ret fun v H => ?_
  obtain ⟨a, n, c, rfl, hs⟩ := hu.sl
  have hcap := hs.le; have hmax := hs.cap
  unfold maxLen at hmax
  have HL := Lib.hid hs.len
  go_enter Try.func26, Try.ntmps26
  go_wp2
  go_loopw [3] (fun i wr => ∃ k : Nat, k ≤ n ∧ i = .int .i64 k ∧ (∃ g, wr = ext w g) ∧ Hid (v = .bool (decide (n ≤ 30) && winOk (prevW xs k) (xs.drop k)))) (fun i _ => n - (intOf i).toNat)
  case atStart => exact ⟨0, Nat.zero_le _, rfl, ext_ex (Bel.refl _), Lib.hid (by rw [← H.out, windowsB, HL.out]; rfl)⟩
  case round =>
    obtain ⟨k, hk, rfl, ⟨g, rfl⟩, hv⟩ := hrel
    by_cases hlt : k < n
    · obtain ⟨b, off, rfl, hb⟩ := hs.base hlt
      obtain ⟨x, y, hx, hc0, hc1⟩ := hs.at2 hlt
      rcases hB : winB x y with _ | _
      · have HB := Lib.hid hB
        rcases h1 : timeB x with _ | _ <;> rcases h2 : timeB y with _ | _ <;> by_cases h3 : y < x
        all_goals first
          | (exfalso; simp [winB, h1, h2] at hB; omega)
          | (clear hB
             go_wp2_with (first | (go_at_call 32; refine (l03Time_c _ _).mono ?_; rintro ee ww ⟨rfl, rfl⟩))
             all_goals (try ((refine region_ext (by kernel_rfl) (by kernel_rfl) ?_; (repeat (go_big_quiet_step (first | (go_at_call 32; exact Calls.in_same (l03Time_c _ _))))); refine wpQuiet_nil ?_; rintro _ ⟨_, rfl⟩); go_wp2_with (first | (go_at_call 32; refine (l03Time_c _ _).mono ?_; rintro ee ww ⟨rfl, rfl⟩))))
             go_ret
             refine Ret.mk ?_ (?_ : Bel _ _)
             · rw [hv.out, drop_cons_of hx.out]; simp [winOk, HB.out]
             · (repeat (first | with_reducible exact Bel.refl _ | with_reducible assumption | apply Bel.ext | apply Bel.alloc | apply Bel.drew | exact Bel.refl _ | refine Bel.set ?_ (by first | (simp; done) | (simp [go_sem]; done) | omega) _)))
      · obtain ⟨h1, h2, h3'⟩ := winB_iff.1 hB
        have HB := Lib.hid hB
        have h3 : decide (y < x) = false := by simp; omega
        clear hB h3'
        by_cases h0 : 0 < k
        · obtain ⟨x', y', hx', hd0, hd1⟩ := hs.at2 (k := k - 1) (by omega)
          have HP := Lib.hid (prevW_pos h0 hx'.out)
          by_cases h4 : x ≤ y'
          · go_wp2_with (first | (go_at_call 32; refine (l03Time_c _ _).mono ?_; rintro ee ww ⟨rfl, rfl⟩))
            all_goals (try ((refine region_ext (by kernel_rfl) (by kernel_rfl) ?_; (repeat (go_big_quiet_step (first | (go_at_call 32; exact Calls.in_same (l03Time_c _ _))))); refine wpQuiet_nil ?_; rintro _ ⟨_, rfl⟩); go_wp2_with (first | (go_at_call 32; refine (l03Time_c _ _).mono ?_; rintro ee ww ⟨rfl, rfl⟩))))
            go_ret
            refine Ret.mk ?_ (?_ : Bel _ _)
            · rw [hv.out, drop_cons_of hx.out, HP.out]; simp [winOk, HB.out]; omega
            · (repeat (first | with_reducible exact Bel.refl _ | with_reducible assumption | apply Bel.ext | apply Bel.alloc | apply Bel.drew | exact Bel.refl _ | refine Bel.set ?_ (by first | (simp; done) | (simp [go_sem]; done) | omega) _))
          · go_wp2_with (first | (go_at_call 32; refine (l03Time_c _ _).mono ?_; rintro ee ww ⟨rfl, rfl⟩))
            all_goals (try ((refine region_ext (by kernel_rfl) (by kernel_rfl) ?_; (repeat (go_big_quiet_step (first | (go_at_call 32; exact Calls.in_same (l03Time_c _ _))))); refine wpQuiet_nil ?_; rintro _ ⟨_, rfl⟩); go_wp2_with (first | (go_at_call 32; refine (l03Time_c _ _).mono ?_; rintro ee ww ⟨rfl, rfl⟩))))
            go_roundw
            case rel =>
              refine ⟨k + 1, by omega, by go_num, ext_ex (by (repeat (first | with_reducible exact Bel.refl _ | with_reducible assumption | apply Bel.ext | apply Bel.alloc | apply Bel.drew | exact Bel.refl _ | refine Bel.set ?_ (by first | (simp; done) | (simp [go_sem]; done) | omega) _)) : Bel _ _), Lib.hid ?_⟩
              rw [hv.out, drop_cons_of hx.out, HP.out, prevW_succ hx.out]; simp [winOk, HB.out, show y' < x from by omega]
            case measure => simp [intOf]; omega
        · have hd : decide (0 < (k : Int)) = false := by simp; omega
          go_wp2_with (first | (go_at_call 32; refine (l03Time_c _ _).mono ?_; rintro ee ww ⟨rfl, rfl⟩))
          all_goals (try ((refine region_ext (by kernel_rfl) (by kernel_rfl) ?_; (repeat (go_big_quiet_step (first | (go_at_call 32; exact Calls.in_same (l03Time_c _ _))))); refine wpQuiet_nil ?_; rintro _ ⟨_, rfl⟩); go_wp2_with (first | (go_at_call 32; refine (l03Time_c _ _).mono ?_; rintro ee ww ⟨rfl, rfl⟩))))
          go_roundw
          case rel =>
            refine ⟨k + 1, by omega, by go_num, ext_ex (by (repeat (first | with_reducible exact Bel.refl _ | with_reducible assumption | apply Bel.ext | apply Bel.alloc | apply Bel.drew | exact Bel.refl _ | refine Bel.set ?_ (by first | (simp; done) | (simp [go_sem]; done) | omega) _)) : Bel _ _), Lib.hid ?_⟩
            have hp : prevW xs k = none := by rw [show k = 0 from by omega]; rfl
            rw [hv.out, drop_cons_of hx.out, hp, prevW_succ hx.out]; simp [winOk, HB.out]
          case measure => simp [intOf]; omega
    · go_wp2
      go_ret
      refine Ret.mk ?_ (?_ : Bel _ _)
      · rw [hv.out, List.drop_of_length_le (by rw [← HL.out]; omega)]; simp [winOk]
        try first | rfl | omega
      · (repeat (first | with_reducible exact Bel.refl _ | with_reducible assumption | apply Bel.ext | apply Bel.alloc | apply Bel.drew | exact Bel.refl _ | refine Bel.set ?_ (by first | (simp; done) | (simp [go_sem]; done) | omega) _))
end Go.Proofs.Ytdneffnnpjgnbab
