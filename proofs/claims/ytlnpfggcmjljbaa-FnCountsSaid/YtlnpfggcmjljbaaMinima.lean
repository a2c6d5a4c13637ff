/- Lists of minima: what the small functions on them return, in the program and in the reference. -/
import Derived.Test.YtlnpfggcmjljbaaBase
import Derived.Test.YtlnpfggcmjljbaaRow
import Derived.Test.YtlnpfggcmjljbaaEph
import Derived.Test.YtlnpfggcmjljbaaRowMinimum
namespace Go.Proofs.Ytlnpfggcmjljbaa
open Go.RowKit

def minB (c t : Int) : Bool := inB c (-10000) 10000 && timeB t
theorem minB_iff {c t : Int} : minB c t = true ↔ -10000 ≤ c ∧ c ≤ 10000 ∧ 0 ≤ t ∧ t ≤ 10000000 := by simp [minB, inB_iff, timeB_iff, and_assoc]
/-- both parts rise strictly, each in its range -/
def minOk (prev : Option (Int × Int)) : List (Int × Int) → Bool
  | [] => true
  | (x, y) :: r => minB x y && (match prev with | none => true | some p => decide (p.1 < x) && decide (p.2 < y)) && minOk (some (x, y)) r
def minimaB (xs : List (Int × Int)) : Bool := decide (xs.length ≤ 50) && minOk none xs
def prevOf (xs : List (Int × Int)) : Nat → Option (Int × Int)
  | 0 => none
  | k + 1 => xs[k]?
theorem prevOf_succ {xs : List (Int × Int)} {k : Nat} {x : Int × Int} (h : xs[k]? = some x) : prevOf xs (k + 1) = some x := h
theorem prevOf_pos {xs : List (Int × Int)} {k : Nat} {x : Int × Int} (h0 : 0 < k) (h : xs[k - 1]? = some x) : prevOf xs k = some x := by obtain ⟨j, rfl⟩ : ∃ j, k = j + 1 := ⟨k - 1, by omega⟩; exact h
theorem minOk_tail {prev : Option (Int × Int)} {x : Int × Int} {r : List (Int × Int)} (h : minOk prev (x :: r) = true) : minB x.1 x.2 = true ∧ minOk (some x) r = true := by
  obtain ⟨a, b⟩ := x
  simp [minOk] at h
  exact ⟨h.1.1, h.2⟩
theorem minOk_get : ∀ {xs : List (Int × Int)} {prev : Option (Int × Int)}, minOk prev xs = true → ∀ {k : Nat} {x : Int × Int}, xs[k]? = some x → minB x.1 x.2 = true
  | [], _, _, _, _, h => by simp at h
  | y :: r, _, hp, 0, x, h => by simp at h; subst h; exact (minOk_tail hp).1
  | y :: r, _, hp, k + 1, x, h => minOk_get (minOk_tail hp).2 (by simpa using h)
theorem minimaB_get {xs : List (Int × Int)} (h : minimaB xs = true) {k : Nat} {x : Int × Int} (hx : xs[k]? = some x) : -10000 ≤ x.1 ∧ x.1 ≤ 10000 ∧ 0 ≤ x.2 ∧ x.2 ≤ 10000000 := by
  simp [minimaB] at h
  exact minB_iff.1 (minOk_get h.2 hx)
theorem minimaB_len {xs : List (Int × Int)} (h : minimaB xs = true) : xs.length ≤ 50 := by simp [minimaB] at h; exact h.1

set_option maxHeartbeats 400000 in
theorem isMinimum_c (a b : Int) (w : World) : Calls Try.prog 51 #[.agg #[.int .i64 a, .int .i64 b]] w (Ret (.bool (minB a b)) w) := by
  refine hide_ret fun v H => ?_
  go_enter Try.func51, Try.ntmps51
  go_wp2_with (first | (go_at_call 53; refine (ValidTime_c _ _).mono ?_; rintro ee ww ⟨rfl, rfl⟩) | (go_at_call 61; refine (in_c _ _ _ _).mono ?_; rintro ee ww ⟨rfl, rfl⟩))
  all_goals (try ((refine region_ext (by kernel_rfl) (by kernel_rfl) ?_; (repeat (go_big_quiet_step (first | (go_at_call 53; exact Calls.in_same (ValidTime_c _ _)) | (go_at_call 61; exact Calls.in_same (in_c _ _ _ _))))); refine wpQuiet_nil ?_; rintro _ ⟨_, rfl⟩); go_wp2_with (first | (go_at_call 53; refine (ValidTime_c _ _).mono ?_; rintro ee ww ⟨rfl, rfl⟩) | (go_at_call 61; refine (in_c _ _ _ _).mono ?_; rintro ee ww ⟨rfl, rfl⟩))))
  all_goals go_ret
  all_goals refine Ret.mk ?_ (?_ : Bel _ _)
  all_goals first | (repeat (first | exact Bel.refl _ | apply Bel.ext | apply Bel.alloc | apply Bel.drew | refine Bel.set ?_ (by first | (simp; done) | (simp [go_sem]; done) | omega) _)); done | (first | (rw [← H.out]; simp_all [minB]; done) | (rw [← H.out]; simp_all [minB]; omega) | (rw [← H.out]; simp_all [minB]; rw [Bool.eq_iff_iff]; simp; omega))
set_option maxHeartbeats 400000 in
theorem l13One_c (a b : Int) (w : World) : Calls Try.prog 59 #[.agg #[.int .i64 a, .int .i64 b]] w (Ret (.bool (minB a b)) w) := by
  refine hide_ret fun v H => ?_
  go_enter Try.func59, Try.ntmps59
  go_wp2_with (first | (go_at_call 56; refine (l06Time_c _ _).mono ?_; rintro ee ww ⟨rfl, rfl⟩) | (go_at_call 58; refine (l00In_c _ _ _ _).mono ?_; rintro ee ww ⟨rfl, rfl⟩))
  all_goals (try ((refine region_ext (by kernel_rfl) (by kernel_rfl) ?_; (repeat (go_big_quiet_step (first | (go_at_call 56; exact Calls.in_same (l06Time_c _ _)) | (go_at_call 58; exact Calls.in_same (l00In_c _ _ _ _))))); refine wpQuiet_nil ?_; rintro _ ⟨_, rfl⟩); go_wp2_with (first | (go_at_call 56; refine (l06Time_c _ _).mono ?_; rintro ee ww ⟨rfl, rfl⟩) | (go_at_call 58; refine (l00In_c _ _ _ _).mono ?_; rintro ee ww ⟨rfl, rfl⟩))))
  all_goals go_ret
  all_goals refine Ret.mk ?_ (?_ : Bel _ _)
  all_goals first | (repeat (first | exact Bel.refl _ | apply Bel.ext | apply Bel.alloc | apply Bel.drew | refine Bel.set ?_ (by first | (simp; done) | (simp [go_sem]; done) | omega) _)); done | (first | (rw [← H.out]; simp_all [minB]; done) | (rw [← H.out]; simp_all [minB]; omega) | (rw [← H.out]; simp_all [minB]; rw [Bool.eq_iff_iff]; simp; omega))
set_option maxHeartbeats 2000000 in
theorem ValidMinima_c (u : Value) (xs : List (Int × Int)) (w : World) (hu : Rd cel2 w u xs) :
    Calls Try.prog 17 #[u] w (Ret (.bool (minimaB xs)) w) := by
  refine hide_ret fun v H => ?_
  obtain ⟨a, n, c, rfl, hs⟩ := hu.sl
  have hcap := hs.le; have hmax := hs.cap
  unfold maxLen at hmax
  have HL := Lib.hid hs.len
  by_cases hn : 50 < n
  · go_enter Try.func17, Try.ntmps17
    go_wp2
    go_ret
    have e : decide (xs.length ≤ 50) = false := decide_eq_false (by rw [← HL.out]; omega)
    exact Ret.mk (by rw [← H.out, minimaB, e]; rfl) (Below.refl _ _)
  · go_enter Try.func17, Try.ntmps17
    go_wp2
    go_loopw [10] (fun i wr => ∃ k : Nat, k ≤ n ∧ i = .int .i64 k ∧ (∃ g, wr = ext w g) ∧ Hid (v = .bool (minOk (prevOf xs k) (xs.drop k)))) (fun i _ => n - (intOf i).toNat)
    case atStart => exact ⟨0, Nat.zero_le _, rfl, ext_ex (Bel.refl _), Lib.hid (by rw [← H.out, minimaB, decide_eq_true (by rw [← HL.out]; omega)]; rfl)⟩
    case round =>
      obtain ⟨k, hk, rfl, ⟨g, rfl⟩, hv⟩ := hrel
      by_cases hlt : k < n
      · obtain ⟨b, off, rfl, hb⟩ := hs.base hlt
        obtain ⟨x, y, hx, hc0, hc1⟩ := hs.at2 hlt
        rcases h1 : minB x y with _ | _
        · go_wp2_with (first | (go_at_call 51; refine (isMinimum_c _ _ _).mono ?_; rintro ee ww ⟨rfl, _, rfl⟩))
          all_goals (try ((refine region_ext (by kernel_rfl) (by kernel_rfl) ?_; (repeat (go_big_quiet_step (first | (go_at_call 51; exact Calls.in_ret (isMinimum_c _ _ _))))); refine wpQuiet_nil ?_; rintro _ ⟨_, rfl⟩); go_wp2_with (first | (go_at_call 51; refine (isMinimum_c _ _ _).mono ?_; rintro ee ww ⟨rfl, _, rfl⟩))))
          go_ret
          refine Ret.mk ?_ (?_ : Bel _ _)
          · rw [hv.out, drop_cons_of hx.out]; simp [minOk, h1]
          · (repeat (first | exact Bel.refl _ | apply Bel.ext | apply Bel.alloc | apply Bel.drew | refine Bel.set ?_ (by first | (simp; done) | (simp [go_sem]; done) | omega) _))
        · by_cases h0 : 0 < k
          · obtain ⟨x', y', hx', hd0, hd1⟩ := hs.at2 (k := k - 1) (by omega)
            have HP := Lib.hid (prevOf_pos h0 hx'.out)
            by_cases h3 : x ≤ x'
            · go_wp2_with (first | (go_at_call 51; refine (isMinimum_c _ _ _).mono ?_; rintro ee ww ⟨rfl, _, rfl⟩))
              all_goals (try ((refine region_ext (by kernel_rfl) (by kernel_rfl) ?_; (repeat (go_big_quiet_step (first | (go_at_call 51; exact Calls.in_ret (isMinimum_c _ _ _))))); refine wpQuiet_nil ?_; rintro _ ⟨_, rfl⟩); go_wp2_with (first | (go_at_call 51; refine (isMinimum_c _ _ _).mono ?_; rintro ee ww ⟨rfl, _, rfl⟩))))
              go_ret
              refine Ret.mk ?_ (?_ : Bel _ _)
              · rw [hv.out, drop_cons_of hx.out, HP.out]; simp [minOk, h1]; omega
              · (repeat (first | exact Bel.refl _ | apply Bel.ext | apply Bel.alloc | apply Bel.drew | refine Bel.set ?_ (by first | (simp; done) | (simp [go_sem]; done) | omega) _))
            · have h3' : decide (x ≤ x') = false := by simp; omega
              by_cases h4 : y ≤ y'
              · go_wp2_with (first | (go_at_call 51; refine (isMinimum_c _ _ _).mono ?_; rintro ee ww ⟨rfl, _, rfl⟩))
                all_goals (try ((refine region_ext (by kernel_rfl) (by kernel_rfl) ?_; (repeat (go_big_quiet_step (first | (go_at_call 51; exact Calls.in_ret (isMinimum_c _ _ _))))); refine wpQuiet_nil ?_; rintro _ ⟨_, rfl⟩); go_wp2_with (first | (go_at_call 51; refine (isMinimum_c _ _ _).mono ?_; rintro ee ww ⟨rfl, _, rfl⟩))))
                go_ret
                refine Ret.mk ?_ (?_ : Bel _ _)
                · rw [hv.out, drop_cons_of hx.out, HP.out]; simp [minOk, h1]; omega
                · (repeat (first | exact Bel.refl _ | apply Bel.ext | apply Bel.alloc | apply Bel.drew | refine Bel.set ?_ (by first | (simp; done) | (simp [go_sem]; done) | omega) _))
              · have h4' : decide (y ≤ y') = false := by simp; omega
                go_wp2_with (first | (go_at_call 51; refine (isMinimum_c _ _ _).mono ?_; rintro ee ww ⟨rfl, _, rfl⟩))
                all_goals (try ((refine region_ext (by kernel_rfl) (by kernel_rfl) ?_; (repeat (go_big_quiet_step (first | (go_at_call 51; exact Calls.in_ret (isMinimum_c _ _ _))))); refine wpQuiet_nil ?_; rintro _ ⟨_, rfl⟩); go_wp2_with (first | (go_at_call 51; refine (isMinimum_c _ _ _).mono ?_; rintro ee ww ⟨rfl, _, rfl⟩))))
                go_roundw
                case rel =>
                  refine ⟨k + 1, by omega, by go_num, ext_ex (by (repeat (first | exact Bel.refl _ | apply Bel.ext | apply Bel.alloc | apply Bel.drew | refine Bel.set ?_ (by first | (simp; done) | (simp [go_sem]; done) | omega) _)) : Bel _ _), Lib.hid ?_⟩
                  rw [hv.out, drop_cons_of hx.out, HP.out, prevOf_succ hx.out]; simp [minOk, h1, show x' < x from by omega, show y' < y from by omega]
                case measure => simp [intOf]; omega
          · have hd : decide (0 < (k : Int)) = false := by simp; omega
            go_wp2_with (first | (go_at_call 51; refine (isMinimum_c _ _ _).mono ?_; rintro ee ww ⟨rfl, _, rfl⟩))
            all_goals (try ((refine region_ext (by kernel_rfl) (by kernel_rfl) ?_; (repeat (go_big_quiet_step (first | (go_at_call 51; exact Calls.in_ret (isMinimum_c _ _ _))))); refine wpQuiet_nil ?_; rintro _ ⟨_, rfl⟩); go_wp2_with (first | (go_at_call 51; refine (isMinimum_c _ _ _).mono ?_; rintro ee ww ⟨rfl, _, rfl⟩))))
            go_roundw
            case rel =>
              refine ⟨k + 1, by omega, by go_num, ext_ex (by (repeat (first | exact Bel.refl _ | apply Bel.ext | apply Bel.alloc | apply Bel.drew | refine Bel.set ?_ (by first | (simp; done) | (simp [go_sem]; done) | omega) _)) : Bel _ _), Lib.hid ?_⟩
              have hp : prevOf xs k = none := by rw [show k = 0 from by omega]; rfl
              rw [hv.out, drop_cons_of hx.out, hp, prevOf_succ hx.out]; simp [minOk, h1]
            case measure => simp [intOf]; omega
      · go_wp2
        go_ret
        refine Ret.mk ?_ (?_ : Bel _ _)
        · rw [hv.out, List.drop_of_length_le (by rw [← HL.out]; omega)]; simp [minOk]
        · (repeat (first | exact Bel.refl _ | apply Bel.ext | apply Bel.alloc | apply Bel.drew | refine Bel.set ?_ (by first | (simp; done) | (simp [go_sem]; done) | omega) _))
set_option maxHeartbeats 2000000 in
theorem l13Ok_c (u : Value) (xs : List (Int × Int)) (w : World) (hu : Rd cel2 w u xs) :
    Calls Try.prog 50 #[u] w (Ret (.bool (minimaB xs)) w) := by
  refine hide_ret fun v H => ?_
  obtain ⟨a, n, c, rfl, hs⟩ := hu.sl
  have hcap := hs.le; have hmax := hs.cap
  unfold maxLen at hmax
  have HL := Lib.hid hs.len
  go_enter Try.func50, Try.ntmps50
  go_wp2
  go_loopw [3] (fun i wr => ∃ k : Nat, k ≤ n ∧ i = .int .i64 k ∧ (∃ g, wr = ext w g) ∧ Hid (v = .bool (decide (n ≤ 50) && minOk (prevOf xs k) (xs.drop k)))) (fun i _ => n - (intOf i).toNat)
  case atStart => exact ⟨0, Nat.zero_le _, rfl, ext_ex (Bel.refl _), Lib.hid (by rw [← H.out, minimaB, HL.out]; rfl)⟩
  case round =>
    obtain ⟨k, hk, rfl, ⟨g, rfl⟩, hv⟩ := hrel
    by_cases hlt : k < n
    · obtain ⟨b, off, rfl, hb⟩ := hs.base hlt
      obtain ⟨x, y, hx, hc0, hc1⟩ := hs.at2 hlt
      rcases h1 : minB x y with _ | _
      · go_wp2_with (first | (go_at_call 59; refine (l13One_c _ _ _).mono ?_; rintro ee ww ⟨rfl, _, rfl⟩))
        all_goals (try ((refine region_ext (by kernel_rfl) (by kernel_rfl) ?_; (repeat (go_big_quiet_step (first | (go_at_call 59; exact Calls.in_ret (l13One_c _ _ _))))); refine wpQuiet_nil ?_; rintro _ ⟨_, rfl⟩); go_wp2_with (first | (go_at_call 59; refine (l13One_c _ _ _).mono ?_; rintro ee ww ⟨rfl, _, rfl⟩))))
        go_ret
        refine Ret.mk ?_ (?_ : Bel _ _)
        · rw [hv.out, drop_cons_of hx.out]; simp [minOk, h1]
        · (repeat (first | exact Bel.refl _ | apply Bel.ext | apply Bel.alloc | apply Bel.drew | refine Bel.set ?_ (by first | (simp; done) | (simp [go_sem]; done) | omega) _))
      · by_cases h0 : 0 < k
        · obtain ⟨x', y', hx', hd0, hd1⟩ := hs.at2 (k := k - 1) (by omega)
          have HP := Lib.hid (prevOf_pos h0 hx'.out)
          by_cases h3 : x ≤ x'
          · go_wp2_with (first | (go_at_call 59; refine (l13One_c _ _ _).mono ?_; rintro ee ww ⟨rfl, _, rfl⟩))
            all_goals (try ((refine region_ext (by kernel_rfl) (by kernel_rfl) ?_; (repeat (go_big_quiet_step (first | (go_at_call 59; exact Calls.in_ret (l13One_c _ _ _))))); refine wpQuiet_nil ?_; rintro _ ⟨_, rfl⟩); go_wp2_with (first | (go_at_call 59; refine (l13One_c _ _ _).mono ?_; rintro ee ww ⟨rfl, _, rfl⟩))))
            go_ret
            refine Ret.mk ?_ (?_ : Bel _ _)
            · rw [hv.out, drop_cons_of hx.out, HP.out]; simp [minOk, h1]; omega
            · (repeat (first | exact Bel.refl _ | apply Bel.ext | apply Bel.alloc | apply Bel.drew | refine Bel.set ?_ (by first | (simp; done) | (simp [go_sem]; done) | omega) _))
          · have h3' : decide (x ≤ x') = false := by simp; omega
            by_cases h4 : y ≤ y'
            · go_wp2_with (first | (go_at_call 59; refine (l13One_c _ _ _).mono ?_; rintro ee ww ⟨rfl, _, rfl⟩))
              all_goals (try ((refine region_ext (by kernel_rfl) (by kernel_rfl) ?_; (repeat (go_big_quiet_step (first | (go_at_call 59; exact Calls.in_ret (l13One_c _ _ _))))); refine wpQuiet_nil ?_; rintro _ ⟨_, rfl⟩); go_wp2_with (first | (go_at_call 59; refine (l13One_c _ _ _).mono ?_; rintro ee ww ⟨rfl, _, rfl⟩))))
              go_ret
              refine Ret.mk ?_ (?_ : Bel _ _)
              · rw [hv.out, drop_cons_of hx.out, HP.out]; simp [minOk, h1]; omega
              · (repeat (first | exact Bel.refl _ | apply Bel.ext | apply Bel.alloc | apply Bel.drew | refine Bel.set ?_ (by first | (simp; done) | (simp [go_sem]; done) | omega) _))
            · have h4' : decide (y ≤ y') = false := by simp; omega
              go_wp2_with (first | (go_at_call 59; refine (l13One_c _ _ _).mono ?_; rintro ee ww ⟨rfl, _, rfl⟩))
              all_goals (try ((refine region_ext (by kernel_rfl) (by kernel_rfl) ?_; (repeat (go_big_quiet_step (first | (go_at_call 59; exact Calls.in_ret (l13One_c _ _ _))))); refine wpQuiet_nil ?_; rintro _ ⟨_, rfl⟩); go_wp2_with (first | (go_at_call 59; refine (l13One_c _ _ _).mono ?_; rintro ee ww ⟨rfl, _, rfl⟩))))
              go_roundw
              case rel =>
                refine ⟨k + 1, by omega, by go_num, ext_ex (by (repeat (first | exact Bel.refl _ | apply Bel.ext | apply Bel.alloc | apply Bel.drew | refine Bel.set ?_ (by first | (simp; done) | (simp [go_sem]; done) | omega) _)) : Bel _ _), Lib.hid ?_⟩
                rw [hv.out, drop_cons_of hx.out, HP.out, prevOf_succ hx.out]; simp [minOk, h1, show x' < x from by omega, show y' < y from by omega]
              case measure => simp [intOf]; omega
        · have hd : decide (0 < (k : Int)) = false := by simp; omega
          go_wp2_with (first | (go_at_call 59; refine (l13One_c _ _ _).mono ?_; rintro ee ww ⟨rfl, _, rfl⟩))
          all_goals (try ((refine region_ext (by kernel_rfl) (by kernel_rfl) ?_; (repeat (go_big_quiet_step (first | (go_at_call 59; exact Calls.in_ret (l13One_c _ _ _))))); refine wpQuiet_nil ?_; rintro _ ⟨_, rfl⟩); go_wp2_with (first | (go_at_call 59; refine (l13One_c _ _ _).mono ?_; rintro ee ww ⟨rfl, _, rfl⟩))))
          go_roundw
          case rel =>
            refine ⟨k + 1, by omega, by go_num, ext_ex (by (repeat (first | exact Bel.refl _ | apply Bel.ext | apply Bel.alloc | apply Bel.drew | refine Bel.set ?_ (by first | (simp; done) | (simp [go_sem]; done) | omega) _)) : Bel _ _), Lib.hid ?_⟩
            have hp : prevOf xs k = none := by rw [show k = 0 from by omega]; rfl
            rw [hv.out, drop_cons_of hx.out, hp, prevOf_succ hx.out]; simp [minOk, h1]
          case measure => simp [intOf]; omega
    · go_wp2
      go_ret
      refine Ret.mk ?_ (?_ : Bel _ _)
      · rw [hv.out, List.drop_of_length_le (by rw [← HL.out]; omega)]; simp [minOk]
        first | rfl | omega
      · (repeat (first | exact Bel.refl _ | apply Bel.ext | apply Bel.alloc | apply Bel.drew | refine Bel.set ?_ (by first | (simp; done) | (simp [go_sem]; done) | omega) _))
set_option maxHeartbeats 400000 in
theorem sValidMinima_c (u : Value) (xs : List (Int × Int)) (w : World) (hu : Rd cel2 w u xs) :
    Calls Try.prog 15 #[u] w (Ret (.bool (minimaB xs)) w) := by
  refine hide_ret fun v H => ?_
  go_enter Try.func15, Try.ntmps15
  go_wp2_with (first | (go_at_call 50; refine Calls.mono (l13Ok_c _ xs _ (hu.bel ?_)) ?_; (focus (repeat (first | exact Bel.refl _ | apply Bel.ext | apply Bel.alloc | apply Bel.drew))); rintro ee ww ⟨rfl, _, rfl⟩))
  go_ret
  refine Ret.mk ?_ (?_ : Bel _ _)
  · exact H.out
  · (repeat (first | exact Bel.refl _ | apply Bel.ext | apply Bel.alloc | apply Bel.drew | refine Bel.set ?_ (by first | (simp; done) | (simp [go_sem]; done) | omega) _))
end Go.Proofs.Ytlnpfggcmjljbaa
