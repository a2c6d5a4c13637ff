/- Light curves: what 'ValidCurve' and its like return, in the program and in the reference. -/
import Derived.Test.YtdneffnnpjgnbacDoorBase
import Derived.Test.YtdneffnnpjgnbacDoorRow
namespace Go.Proofs.YtdneffnnpjgnbacDoor
open Go.RowKit

/-- pairs whose first parts rise strictly, each part in its range -/
def pairOk (f g : Int → Bool) (prev : Option (Int × Int)) : List (Int × Int) → Bool
  | [] => true
  | (t, m) :: r => f t && g m && (match prev with | none => true | some p => decide (p.1 < t)) && pairOk f g (some (t, m)) r
def prevOf (xs : List (Int × Int)) : Nat → Option (Int × Int)
  | 0 => none
  | k + 1 => xs[k]?
theorem prevOf_succ {xs : List (Int × Int)} {k : Nat} {x : Int × Int} (h : xs[k]? = some x) : prevOf xs (k + 1) = some x := h
def curveB (xs : List (Int × Int)) : Bool := decide (xs.length ≤ 100) && pairOk timeB magB none xs

set_option maxHeartbeats 1000000 in
theorem ValidCurve_c (u : Value) (xs : List (Int × Int)) (w : World) (hu : Rd cel2 w u xs) :
    Calls Tryd.prog 44 #[u] w (Ret (.bool (curveB xs)) w) := by
  refine hide_ret fun v H => ?_
  obtain ⟨a, n, c, rfl, hs⟩ := hu.sl
  have hcap := hs.le; have hmax := hs.cap
  unfold maxLen at hmax
  have HL := Lib.hid hs.len
  by_cases hn : 100 < n
  · go_enter Tryd.func44, Tryd.ntmps44
    go_wp2
    go_ret
    have e : decide (xs.length ≤ 100) = false := decide_eq_false (by rw [← HL.out]; omega)
    exact Ret.mk (by rw [← H.out, curveB, e]; rfl) (Below.refl _ _)
  · go_enter Tryd.func44, Tryd.ntmps44
    go_wp2
    go_loopw [10] (fun i wr => ∃ k : Nat, k ≤ n ∧ i = .int .i64 k ∧ (∃ g, wr = ext w g) ∧ Hid (v = .bool (pairOk timeB magB (prevOf xs k) (xs.drop k)))) (fun i _ => n - (intOf i).toNat)
    case atStart => exact ⟨0, Nat.zero_le _, rfl, ext_ex (Bel.refl _), Lib.hid (by rw [← H.out, curveB, decide_eq_true (by rw [← HL.out]; omega)]; rfl)⟩
    case round =>
      obtain ⟨k, hk, rfl, ⟨g, rfl⟩, hv⟩ := hrel
      by_cases hlt : k < n
      · obtain ⟨b, off, rfl, hb⟩ := hs.base hlt
        obtain ⟨x, y, hx, hc0, hc1⟩ := hs.at2 hlt
        rcases h1 : timeB x with _ | _
        · go_wp2_with (first | (go_at_call 53; refine (ValidTime_c _ _).mono ?_; rintro ee ww ⟨rfl, rfl⟩) | (go_at_call 64; refine (ValidMag_c _ _).mono ?_; rintro ee ww ⟨rfl, rfl⟩))
          all_goals (try ((refine region_ext (by kernel_rfl) (by kernel_rfl) ?_; (repeat (go_big_quiet_step (first | (go_at_call 53; exact Calls.in_same (ValidTime_c _ _)) | (go_at_call 64; exact Calls.in_same (ValidMag_c _ _))))); refine wpQuiet_nil ?_; rintro _ ⟨_, rfl⟩); go_wp2_with (first | (go_at_call 53; refine (ValidTime_c _ _).mono ?_; rintro ee ww ⟨rfl, rfl⟩) | (go_at_call 64; refine (ValidMag_c _ _).mono ?_; rintro ee ww ⟨rfl, rfl⟩))))
          go_ret
          refine Ret.mk ?_ (?_ : Bel _ _)
          · rw [hv.out, drop_cons_of hx.out]; simp [pairOk, h1]
          · (repeat (first | with_reducible exact Bel.refl _ | with_reducible assumption | apply Bel.ext | apply Bel.alloc | apply Bel.drew | exact Bel.refl _ | refine Bel.set ?_ (by first | (simp; done) | (simp [go_sem]; done) | omega) _))
        · rcases h2 : magB y with _ | _
          · go_wp2_with (first | (go_at_call 53; refine (ValidTime_c _ _).mono ?_; rintro ee ww ⟨rfl, rfl⟩) | (go_at_call 64; refine (ValidMag_c _ _).mono ?_; rintro ee ww ⟨rfl, rfl⟩))
            all_goals (try ((refine region_ext (by kernel_rfl) (by kernel_rfl) ?_; (repeat (go_big_quiet_step (first | (go_at_call 53; exact Calls.in_same (ValidTime_c _ _)) | (go_at_call 64; exact Calls.in_same (ValidMag_c _ _))))); refine wpQuiet_nil ?_; rintro _ ⟨_, rfl⟩); go_wp2_with (first | (go_at_call 53; refine (ValidTime_c _ _).mono ?_; rintro ee ww ⟨rfl, rfl⟩) | (go_at_call 64; refine (ValidMag_c _ _).mono ?_; rintro ee ww ⟨rfl, rfl⟩))))
            go_ret
            refine Ret.mk ?_ (?_ : Bel _ _)
            · rw [hv.out, drop_cons_of hx.out]; simp [pairOk, h1, h2]
            · (repeat (first | with_reducible exact Bel.refl _ | with_reducible assumption | apply Bel.ext | apply Bel.alloc | apply Bel.drew | exact Bel.refl _ | refine Bel.set ?_ (by first | (simp; done) | (simp [go_sem]; done) | omega) _))
          · by_cases h0 : 0 < k
            · obtain ⟨x', y', hx', hd0, hd1⟩ := hs.at2 (k := k - 1) (by omega)
              have hp : prevOf xs k = some (x', y') := by obtain ⟨j, rfl⟩ : ∃ j, k = j + 1 := ⟨k - 1, by omega⟩; exact hx'.out
              have HP := Lib.hid hp
              clear hp
              by_cases h3 : x ≤ x'
              · go_wp2_with (first | (go_at_call 53; refine (ValidTime_c _ _).mono ?_; rintro ee ww ⟨rfl, rfl⟩) | (go_at_call 64; refine (ValidMag_c _ _).mono ?_; rintro ee ww ⟨rfl, rfl⟩))
                all_goals (try ((refine region_ext (by kernel_rfl) (by kernel_rfl) ?_; (repeat (go_big_quiet_step (first | (go_at_call 53; exact Calls.in_same (ValidTime_c _ _)) | (go_at_call 64; exact Calls.in_same (ValidMag_c _ _))))); refine wpQuiet_nil ?_; rintro _ ⟨_, rfl⟩); go_wp2_with (first | (go_at_call 53; refine (ValidTime_c _ _).mono ?_; rintro ee ww ⟨rfl, rfl⟩) | (go_at_call 64; refine (ValidMag_c _ _).mono ?_; rintro ee ww ⟨rfl, rfl⟩))))
                go_ret
                refine Ret.mk ?_ (?_ : Bel _ _)
                · rw [hv.out, drop_cons_of hx.out, HP.out]; simp [pairOk, h1, h2]; omega
                · (repeat (first | with_reducible exact Bel.refl _ | with_reducible assumption | apply Bel.ext | apply Bel.alloc | apply Bel.drew | exact Bel.refl _ | refine Bel.set ?_ (by first | (simp; done) | (simp [go_sem]; done) | omega) _))
              · have h3' : x' < x := by omega
                go_wp2_with (first | (go_at_call 53; refine (ValidTime_c _ _).mono ?_; rintro ee ww ⟨rfl, rfl⟩) | (go_at_call 64; refine (ValidMag_c _ _).mono ?_; rintro ee ww ⟨rfl, rfl⟩))
                all_goals (try ((refine region_ext (by kernel_rfl) (by kernel_rfl) ?_; (repeat (go_big_quiet_step (first | (go_at_call 53; exact Calls.in_same (ValidTime_c _ _)) | (go_at_call 64; exact Calls.in_same (ValidMag_c _ _))))); refine wpQuiet_nil ?_; rintro _ ⟨_, rfl⟩); go_wp2_with (first | (go_at_call 53; refine (ValidTime_c _ _).mono ?_; rintro ee ww ⟨rfl, rfl⟩) | (go_at_call 64; refine (ValidMag_c _ _).mono ?_; rintro ee ww ⟨rfl, rfl⟩))))
                go_roundw
                case rel =>
                  refine ⟨k + 1, by omega, by go_num, ext_ex (by (repeat (first | with_reducible exact Bel.refl _ | with_reducible assumption | apply Bel.ext | apply Bel.alloc | apply Bel.drew | exact Bel.refl _ | refine Bel.set ?_ (by first | (simp; done) | (simp [go_sem]; done) | omega) _)) : Bel _ _), Lib.hid ?_⟩
                  rw [hv.out, drop_cons_of hx.out, HP.out, prevOf_succ hx.out]; simp [pairOk, h1, h2, h3']
                case measure => simp [intOf]; omega
            · have hd : decide (0 < (k : Int)) = false := by simp; omega
              go_wp2_with (first | (go_at_call 53; refine (ValidTime_c _ _).mono ?_; rintro ee ww ⟨rfl, rfl⟩) | (go_at_call 64; refine (ValidMag_c _ _).mono ?_; rintro ee ww ⟨rfl, rfl⟩))
              all_goals (try ((refine region_ext (by kernel_rfl) (by kernel_rfl) ?_; (repeat (go_big_quiet_step (first | (go_at_call 53; exact Calls.in_same (ValidTime_c _ _)) | (go_at_call 64; exact Calls.in_same (ValidMag_c _ _))))); refine wpQuiet_nil ?_; rintro _ ⟨_, rfl⟩); go_wp2_with (first | (go_at_call 53; refine (ValidTime_c _ _).mono ?_; rintro ee ww ⟨rfl, rfl⟩) | (go_at_call 64; refine (ValidMag_c _ _).mono ?_; rintro ee ww ⟨rfl, rfl⟩))))
              go_roundw
              case rel =>
                refine ⟨k + 1, by omega, by go_num, ext_ex (by (repeat (first | with_reducible exact Bel.refl _ | with_reducible assumption | apply Bel.ext | apply Bel.alloc | apply Bel.drew | exact Bel.refl _ | refine Bel.set ?_ (by first | (simp; done) | (simp [go_sem]; done) | omega) _)) : Bel _ _), Lib.hid ?_⟩
                have hp : prevOf xs k = none := by rw [show k = 0 from by omega]; rfl
                rw [hv.out, drop_cons_of hx.out, hp, prevOf_succ hx.out]; simp [pairOk, h1, h2]
              case measure => simp [intOf]; omega
      · go_wp2
        go_ret
        refine Ret.mk ?_ (?_ : Bel _ _)
        · rw [hv.out, List.drop_of_length_le (by rw [← HL.out]; omega)]; simp [pairOk]
        · (repeat (first | with_reducible exact Bel.refl _ | with_reducible assumption | apply Bel.ext | apply Bel.alloc | apply Bel.drew | exact Bel.refl _ | refine Bel.set ?_ (by first | (simp; done) | (simp [go_sem]; done) | omega) _))
set_option maxHeartbeats 1000000 in
theorem l08Ok_c (u : Value) (xs : List (Int × Int)) (w : World) (hu : Rd cel2 w u xs) :
    Calls Tryd.prog 39 #[u] w (Ret (.bool (curveB xs)) w) := by
  refine hide_ret fun v H => ?_
  obtain ⟨a, n, c, rfl, hs⟩ := hu.sl
  have hcap := hs.le; have hmax := hs.cap
  unfold maxLen at hmax
  have HL := Lib.hid hs.len
  go_enter Tryd.func39, Tryd.ntmps39
  go_wp2
  go_loopw [3] (fun i wr => ∃ k : Nat, k ≤ n ∧ i = .int .i64 k ∧ (∃ g, wr = ext w g) ∧ Hid (v = .bool (decide (n ≤ 100) && pairOk timeB magB (prevOf xs k) (xs.drop k)))) (fun i _ => n - (intOf i).toNat)
  case atStart => exact ⟨0, Nat.zero_le _, rfl, ext_ex (Bel.refl _), Lib.hid (by rw [← H.out, curveB, HL.out]; rfl)⟩
  case round =>
    obtain ⟨k, hk, rfl, ⟨g, rfl⟩, hv⟩ := hrel
    by_cases hlt : k < n
    · obtain ⟨b, off, rfl, hb⟩ := hs.base hlt
      obtain ⟨x, y, hx, hc0, hc1⟩ := hs.at2 hlt
      rcases h1 : timeB x with _ | _
      · go_wp2_with (first | (go_at_call 60; refine (l06Time_c _ _).mono ?_; rintro ee ww ⟨rfl, rfl⟩) | (go_at_call 52; refine (l03Time_c _ _).mono ?_; rintro ee ww ⟨rfl, rfl⟩) | (go_at_call 61; refine (l02Mag_c _ _).mono ?_; rintro ee ww ⟨rfl, rfl⟩))
        all_goals (try ((refine region_ext (by kernel_rfl) (by kernel_rfl) ?_; (repeat (go_big_quiet_step (first | (go_at_call 60; exact Calls.in_same (l06Time_c _ _)) | (go_at_call 52; exact Calls.in_same (l03Time_c _ _)) | (go_at_call 61; exact Calls.in_same (l02Mag_c _ _))))); refine wpQuiet_nil ?_; rintro _ ⟨_, rfl⟩); go_wp2_with (first | (go_at_call 60; refine (l06Time_c _ _).mono ?_; rintro ee ww ⟨rfl, rfl⟩) | (go_at_call 52; refine (l03Time_c _ _).mono ?_; rintro ee ww ⟨rfl, rfl⟩) | (go_at_call 61; refine (l02Mag_c _ _).mono ?_; rintro ee ww ⟨rfl, rfl⟩))))
        go_ret
        refine Ret.mk ?_ (?_ : Bel _ _)
        · rw [hv.out, drop_cons_of hx.out]; simp [pairOk, h1]
        · (repeat (first | with_reducible exact Bel.refl _ | with_reducible assumption | apply Bel.ext | apply Bel.alloc | apply Bel.drew | exact Bel.refl _ | refine Bel.set ?_ (by first | (simp; done) | (simp [go_sem]; done) | omega) _))
      · rcases h2 : magB y with _ | _
        · go_wp2_with (first | (go_at_call 60; refine (l06Time_c _ _).mono ?_; rintro ee ww ⟨rfl, rfl⟩) | (go_at_call 52; refine (l03Time_c _ _).mono ?_; rintro ee ww ⟨rfl, rfl⟩) | (go_at_call 61; refine (l02Mag_c _ _).mono ?_; rintro ee ww ⟨rfl, rfl⟩))
          all_goals (try ((refine region_ext (by kernel_rfl) (by kernel_rfl) ?_; (repeat (go_big_quiet_step (first | (go_at_call 60; exact Calls.in_same (l06Time_c _ _)) | (go_at_call 52; exact Calls.in_same (l03Time_c _ _)) | (go_at_call 61; exact Calls.in_same (l02Mag_c _ _))))); refine wpQuiet_nil ?_; rintro _ ⟨_, rfl⟩); go_wp2_with (first | (go_at_call 60; refine (l06Time_c _ _).mono ?_; rintro ee ww ⟨rfl, rfl⟩) | (go_at_call 52; refine (l03Time_c _ _).mono ?_; rintro ee ww ⟨rfl, rfl⟩) | (go_at_call 61; refine (l02Mag_c _ _).mono ?_; rintro ee ww ⟨rfl, rfl⟩))))
          go_ret
          refine Ret.mk ?_ (?_ : Bel _ _)
          · rw [hv.out, drop_cons_of hx.out]; simp [pairOk, h1, h2]
          · (repeat (first | with_reducible exact Bel.refl _ | with_reducible assumption | apply Bel.ext | apply Bel.alloc | apply Bel.drew | exact Bel.refl _ | refine Bel.set ?_ (by first | (simp; done) | (simp [go_sem]; done) | omega) _))
        · by_cases h0 : 0 < k
          · obtain ⟨x', y', hx', hd0, hd1⟩ := hs.at2 (k := k - 1) (by omega)
            have hp : prevOf xs k = some (x', y') := by obtain ⟨j, rfl⟩ : ∃ j, k = j + 1 := ⟨k - 1, by omega⟩; exact hx'.out
            have HP := Lib.hid hp
            clear hp
            by_cases h3 : x ≤ x'
            · go_wp2_with (first | (go_at_call 60; refine (l06Time_c _ _).mono ?_; rintro ee ww ⟨rfl, rfl⟩) | (go_at_call 52; refine (l03Time_c _ _).mono ?_; rintro ee ww ⟨rfl, rfl⟩) | (go_at_call 61; refine (l02Mag_c _ _).mono ?_; rintro ee ww ⟨rfl, rfl⟩))
              all_goals (try ((refine region_ext (by kernel_rfl) (by kernel_rfl) ?_; (repeat (go_big_quiet_step (first | (go_at_call 60; exact Calls.in_same (l06Time_c _ _)) | (go_at_call 52; exact Calls.in_same (l03Time_c _ _)) | (go_at_call 61; exact Calls.in_same (l02Mag_c _ _))))); refine wpQuiet_nil ?_; rintro _ ⟨_, rfl⟩); go_wp2_with (first | (go_at_call 60; refine (l06Time_c _ _).mono ?_; rintro ee ww ⟨rfl, rfl⟩) | (go_at_call 52; refine (l03Time_c _ _).mono ?_; rintro ee ww ⟨rfl, rfl⟩) | (go_at_call 61; refine (l02Mag_c _ _).mono ?_; rintro ee ww ⟨rfl, rfl⟩))))
              go_ret
              refine Ret.mk ?_ (?_ : Bel _ _)
              · rw [hv.out, drop_cons_of hx.out, HP.out]; simp [pairOk, h1, h2]; omega
              · (repeat (first | with_reducible exact Bel.refl _ | with_reducible assumption | apply Bel.ext | apply Bel.alloc | apply Bel.drew | exact Bel.refl _ | refine Bel.set ?_ (by first | (simp; done) | (simp [go_sem]; done) | omega) _))
            · have h3' : x' < x := by omega
              go_wp2_with (first | (go_at_call 60; refine (l06Time_c _ _).mono ?_; rintro ee ww ⟨rfl, rfl⟩) | (go_at_call 52; refine (l03Time_c _ _).mono ?_; rintro ee ww ⟨rfl, rfl⟩) | (go_at_call 61; refine (l02Mag_c _ _).mono ?_; rintro ee ww ⟨rfl, rfl⟩))
              all_goals (try ((refine region_ext (by kernel_rfl) (by kernel_rfl) ?_; (repeat (go_big_quiet_step (first | (go_at_call 60; exact Calls.in_same (l06Time_c _ _)) | (go_at_call 52; exact Calls.in_same (l03Time_c _ _)) | (go_at_call 61; exact Calls.in_same (l02Mag_c _ _))))); refine wpQuiet_nil ?_; rintro _ ⟨_, rfl⟩); go_wp2_with (first | (go_at_call 60; refine (l06Time_c _ _).mono ?_; rintro ee ww ⟨rfl, rfl⟩) | (go_at_call 52; refine (l03Time_c _ _).mono ?_; rintro ee ww ⟨rfl, rfl⟩) | (go_at_call 61; refine (l02Mag_c _ _).mono ?_; rintro ee ww ⟨rfl, rfl⟩))))
              go_roundw
              case rel =>
                refine ⟨k + 1, by omega, by go_num, ext_ex (by (repeat (first | with_reducible exact Bel.refl _ | with_reducible assumption | apply Bel.ext | apply Bel.alloc | apply Bel.drew | exact Bel.refl _ | refine Bel.set ?_ (by first | (simp; done) | (simp [go_sem]; done) | omega) _)) : Bel _ _), Lib.hid ?_⟩
                rw [hv.out, drop_cons_of hx.out, HP.out, prevOf_succ hx.out]; simp [pairOk, h1, h2, h3']
              case measure => simp [intOf]; omega
          · have hd : decide (0 < (k : Int)) = false := by simp; omega
            go_wp2_with (first | (go_at_call 60; refine (l06Time_c _ _).mono ?_; rintro ee ww ⟨rfl, rfl⟩) | (go_at_call 52; refine (l03Time_c _ _).mono ?_; rintro ee ww ⟨rfl, rfl⟩) | (go_at_call 61; refine (l02Mag_c _ _).mono ?_; rintro ee ww ⟨rfl, rfl⟩))
            all_goals (try ((refine region_ext (by kernel_rfl) (by kernel_rfl) ?_; (repeat (go_big_quiet_step (first | (go_at_call 60; exact Calls.in_same (l06Time_c _ _)) | (go_at_call 52; exact Calls.in_same (l03Time_c _ _)) | (go_at_call 61; exact Calls.in_same (l02Mag_c _ _))))); refine wpQuiet_nil ?_; rintro _ ⟨_, rfl⟩); go_wp2_with (first | (go_at_call 60; refine (l06Time_c _ _).mono ?_; rintro ee ww ⟨rfl, rfl⟩) | (go_at_call 52; refine (l03Time_c _ _).mono ?_; rintro ee ww ⟨rfl, rfl⟩) | (go_at_call 61; refine (l02Mag_c _ _).mono ?_; rintro ee ww ⟨rfl, rfl⟩))))
            go_roundw
            case rel =>
              refine ⟨k + 1, by omega, by go_num, ext_ex (by (repeat (first | with_reducible exact Bel.refl _ | with_reducible assumption | apply Bel.ext | apply Bel.alloc | apply Bel.drew | exact Bel.refl _ | refine Bel.set ?_ (by first | (simp; done) | (simp [go_sem]; done) | omega) _)) : Bel _ _), Lib.hid ?_⟩
              have hp : prevOf xs k = none := by rw [show k = 0 from by omega]; rfl
              rw [hv.out, drop_cons_of hx.out, hp, prevOf_succ hx.out]; simp [pairOk, h1, h2]
            case measure => simp [intOf]; omega
    · go_wp2
      go_ret
      refine Ret.mk ?_ (?_ : Bel _ _)
      · rw [hv.out, List.drop_of_length_le (by rw [← HL.out]; omega)]; simp [pairOk]
        first | rfl | omega
      · (repeat (first | with_reducible exact Bel.refl _ | with_reducible assumption | apply Bel.ext | apply Bel.alloc | apply Bel.drew | exact Bel.refl _ | refine Bel.set ?_ (by first | (simp; done) | (simp [go_sem]; done) | omega) _))
end Go.Proofs.YtdneffnnpjgnbacDoor
