/- Extrema that differ enough from their neighbours: the test of the list, both sides. -/
import Derived.Test.YtdneffnnpjgnbacDoorDeepPlain
import Derived.Test.YtdneffnnpjgnbacDoorCurve
import Derived.Test.YtdneffnnpjgnbacDoorRowExtremum
namespace Go.Proofs.YtdneffnnpjgnbacDoor
open Go.RowKit

set_option maxHeartbeats 400000 in
theorem countP_c (a : Option Addr) (n c : Nat) (h : (n : Int) ≤ 9223372036854775807) (w : World) : Calls Tryd.prog 65 #[.slice a n c] w (Same (.int .i64 n) w) := by
  refine hide_same fun v H => ?_
  have wn : IntKind.i64.wrap (n : Int) = (n : Int) := IntWalk.i64_in _ (by omega)
  go_enter Tryd.func65, Tryd.ntmps65
  go_wp2
  go_ret
  exact Same.mk (by rw [← H.out]; rfl)
set_option maxHeartbeats 4000000 in
theorem areExtrema_c (u : Value) (xs : List (Int × Int)) (u2 : Value) (es : List (Int × Int)) (w : World) (hu : Rd cel2 w u xs) (hu2 : Rd cel2 w u2 es) :
    Calls Tryd.prog 45 #[u, u2] w (Ret (.bool (extOk xs.length none es)) w) := by
  refine hide_ret fun v H => ?_
  obtain ⟨a, n, c, rfl, hs⟩ := hu.sl
  obtain ⟨a2, n2, c2, rfl, hs2⟩ := hu2.sl
  have hcap := hs.le; have hmax := hs.cap
  have hcap2 := hs2.le; have hmax2 := hs2.cap
  unfold maxLen at hmax hmax2
  have HL := Lib.hid hs.len
  have HL2 := Lib.hid hs2.len
  rw [← HL.out] at H
  have wn : IntKind.i64.wrap ((n : Int) - 1) = (n : Int) - 1 := IntWalk.i64_in _ (by omega)
  have hcount : (n : Int) ≤ 9223372036854775807 := by omega
  go_enter Tryd.func45, Tryd.ntmps45
  go_wp2
  go_loopw [9] (fun i wr => ∃ k : Nat, k ≤ n2 ∧ i = .int .i64 k ∧ (∃ g, wr = ext w g) ∧ Hid (v = .bool (extOk n (prevE es k) (es.drop k)))) (fun i _ => n2 - (intOf i).toNat)
  case atStart => exact ⟨0, Nat.zero_le _, rfl, ext_ex (Bel.refl _), Lib.hid H.out.symm⟩
  case round =>
    obtain ⟨k, hk, rfl, ⟨g, rfl⟩, hv⟩ := hrel
    by_cases hlt : k < n2
    · obtain ⟨b, off, rfl, hb⟩ := hs2.base hlt
      obtain ⟨x, y, hx, hc0, hc1⟩ := hs2.at2 hlt
      rcases h1 : inB x 1 2 with _ | _
      · go_wp2_with (first | (go_at_call 50; refine (in_c _ _ _ _).mono ?_; rintro ee ww ⟨rfl, rfl⟩) | (go_at_call 65; refine (countP_c _ _ _ hcount _).mono ?_; rintro ee ww ⟨rfl, rfl⟩))
        all_goals (try ((refine region_ext (by kernel_rfl) (by kernel_rfl) ?_; (repeat (go_big_quiet_step (first | (go_at_call 50; exact Calls.in_same (in_c _ _ _ _)) | (go_at_call 65; exact Calls.in_same (countP_c _ _ _ hcount _))))); refine wpQuiet_nil ?_; rintro _ ⟨_, rfl⟩); go_wp2_with (first | (go_at_call 50; refine (in_c _ _ _ _).mono ?_; rintro ee ww ⟨rfl, rfl⟩) | (go_at_call 65; refine (countP_c _ _ _ hcount _).mono ?_; rintro ee ww ⟨rfl, rfl⟩))))
        go_ret
        refine Ret.mk ?_ (?_ : Bel _ _)
        · rw [hv.out, drop_cons_of hx.out]; simp [extOk, h1]
        · (repeat (first | with_reducible exact Bel.refl _ | with_reducible assumption | apply Bel.ext | apply Bel.alloc | apply Bel.drew | exact Bel.refl _ | refine Bel.set ?_ (by first | (simp; done) | (simp [go_sem]; done) | omega) _))
      rcases h2 : inB y 0 ((n : Int) - 1) with _ | _
      · go_wp2_with (first | (go_at_call 50; refine (in_c _ _ _ _).mono ?_; rintro ee ww ⟨rfl, rfl⟩) | (go_at_call 65; refine (countP_c _ _ _ hcount _).mono ?_; rintro ee ww ⟨rfl, rfl⟩))
        all_goals (try ((refine region_ext (by kernel_rfl) (by kernel_rfl) ?_; (repeat (go_big_quiet_step (first | (go_at_call 50; exact Calls.in_same (in_c _ _ _ _)) | (go_at_call 65; exact Calls.in_same (countP_c _ _ _ hcount _))))); refine wpQuiet_nil ?_; rintro _ ⟨_, rfl⟩); go_wp2_with (first | (go_at_call 50; refine (in_c _ _ _ _).mono ?_; rintro ee ww ⟨rfl, rfl⟩) | (go_at_call 65; refine (countP_c _ _ _ hcount _).mono ?_; rintro ee ww ⟨rfl, rfl⟩))))
        go_ret
        refine Ret.mk ?_ (?_ : Bel _ _)
        · rw [hv.out, drop_cons_of hx.out]; simp [extOk, h1, h2]
        · (repeat (first | with_reducible exact Bel.refl _ | with_reducible assumption | apply Bel.ext | apply Bel.alloc | apply Bel.drew | exact Bel.refl _ | refine Bel.set ?_ (by first | (simp; done) | (simp [go_sem]; done) | omega) _))
      by_cases h0 : 0 < k
      · have h0z : decide (0 < (k : Int)) = true := decide_eq_true (by omega)
        obtain ⟨x', y', hx', hd0, hd1⟩ := hs2.at2 (k := k - 1) (by omega)
        have HP := Lib.hid (prevE_pos h0 hx'.out)
        by_cases h4 : y ≤ y'
        · go_wp2_with (first | (go_at_call 50; refine (in_c _ _ _ _).mono ?_; rintro ee ww ⟨rfl, rfl⟩) | (go_at_call 65; refine (countP_c _ _ _ hcount _).mono ?_; rintro ee ww ⟨rfl, rfl⟩))
          all_goals (try ((refine region_ext (by kernel_rfl) (by kernel_rfl) ?_; (repeat (go_big_quiet_step (first | (go_at_call 50; exact Calls.in_same (in_c _ _ _ _)) | (go_at_call 65; exact Calls.in_same (countP_c _ _ _ hcount _))))); refine wpQuiet_nil ?_; rintro _ ⟨_, rfl⟩); go_wp2_with (first | (go_at_call 50; refine (in_c _ _ _ _).mono ?_; rintro ee ww ⟨rfl, rfl⟩) | (go_at_call 65; refine (countP_c _ _ _ hcount _).mono ?_; rintro ee ww ⟨rfl, rfl⟩))))
          go_ret
          refine Ret.mk ?_ (?_ : Bel _ _)
          · rw [hv.out, drop_cons_of hx.out, HP.out]; simp [extOk]; omega
          · (repeat (first | with_reducible exact Bel.refl _ | with_reducible assumption | apply Bel.ext | apply Bel.alloc | apply Bel.drew | exact Bel.refl _ | refine Bel.set ?_ (by first | (simp; done) | (simp [go_sem]; done) | omega) _))
        · go_wp2_with (first | (go_at_call 50; refine (in_c _ _ _ _).mono ?_; rintro ee ww ⟨rfl, rfl⟩) | (go_at_call 65; refine (countP_c _ _ _ hcount _).mono ?_; rintro ee ww ⟨rfl, rfl⟩))
          all_goals (try ((refine region_ext (by kernel_rfl) (by kernel_rfl) ?_; (repeat (go_big_quiet_step (first | (go_at_call 50; exact Calls.in_same (in_c _ _ _ _)) | (go_at_call 65; exact Calls.in_same (countP_c _ _ _ hcount _))))); refine wpQuiet_nil ?_; rintro _ ⟨_, rfl⟩); go_wp2_with (first | (go_at_call 50; refine (in_c _ _ _ _).mono ?_; rintro ee ww ⟨rfl, rfl⟩) | (go_at_call 65; refine (countP_c _ _ _ hcount _).mono ?_; rintro ee ww ⟨rfl, rfl⟩))))
          go_roundw
          case rel =>
            refine ⟨k + 1, by omega, by go_num, ext_ex (by (repeat (first | with_reducible exact Bel.refl _ | with_reducible assumption | apply Bel.ext | apply Bel.alloc | apply Bel.drew | exact Bel.refl _ | refine Bel.set ?_ (by first | (simp; done) | (simp [go_sem]; done) | omega) _)) : Bel _ _), Lib.hid ?_⟩
            rw [hv.out, drop_cons_of hx.out, HP.out, prevE_succ hx.out]; simp [extOk, h1, h2, show y' < y from by omega]
          case measure => simp [intOf]; omega
      · have h0z : decide (0 < (k : Int)) = false := by simp; omega
        go_wp2_with (first | (go_at_call 50; refine (in_c _ _ _ _).mono ?_; rintro ee ww ⟨rfl, rfl⟩) | (go_at_call 65; refine (countP_c _ _ _ hcount _).mono ?_; rintro ee ww ⟨rfl, rfl⟩))
        all_goals (try ((refine region_ext (by kernel_rfl) (by kernel_rfl) ?_; (repeat (go_big_quiet_step (first | (go_at_call 50; exact Calls.in_same (in_c _ _ _ _)) | (go_at_call 65; exact Calls.in_same (countP_c _ _ _ hcount _))))); refine wpQuiet_nil ?_; rintro _ ⟨_, rfl⟩); go_wp2_with (first | (go_at_call 50; refine (in_c _ _ _ _).mono ?_; rintro ee ww ⟨rfl, rfl⟩) | (go_at_call 65; refine (countP_c _ _ _ hcount _).mono ?_; rintro ee ww ⟨rfl, rfl⟩))))
        go_roundw
        case rel =>
          refine ⟨k + 1, by omega, by go_num, ext_ex (by (repeat (first | with_reducible exact Bel.refl _ | with_reducible assumption | apply Bel.ext | apply Bel.alloc | apply Bel.drew | exact Bel.refl _ | refine Bel.set ?_ (by first | (simp; done) | (simp [go_sem]; done) | omega) _)) : Bel _ _), Lib.hid ?_⟩
          have hp : prevE es k = none := by rw [show k = 0 from by omega]; rfl
          rw [hv.out, drop_cons_of hx.out, hp, prevE_succ hx.out]; simp [extOk, h1, h2]
        case measure => simp [intOf]; omega
    · go_wp2
      go_ret
      refine Ret.mk ?_ (?_ : Bel _ _)
      · rw [hv.out, List.drop_of_length_le (by rw [← HL2.out]; omega)]; simp [extOk]
      · (repeat (first | with_reducible exact Bel.refl _ | with_reducible assumption | apply Bel.ext | apply Bel.alloc | apply Bel.drew | exact Bel.refl _ | refine Bel.set ?_ (by first | (simp; done) | (simp [go_sem]; done) | omega) _))
set_option maxHeartbeats 4000000 in
theorem l12List_c (u : Value) (xs : List (Int × Int)) (u2 : Value) (es : List (Int × Int)) (w : World) (hu : Rd cel2 w u xs) (hu2 : Rd cel2 w u2 es) :
    Calls Tryd.prog 40 #[u, u2] w (Ret (.bool (extOk xs.length none es)) w) := by
  refine hide_ret fun v H => ?_
  obtain ⟨a, n, c, rfl, hs⟩ := hu.sl
  obtain ⟨a2, n2, c2, rfl, hs2⟩ := hu2.sl
  have hcap := hs.le; have hmax := hs.cap
  have hcap2 := hs2.le; have hmax2 := hs2.cap
  unfold maxLen at hmax hmax2
  have HL := Lib.hid hs.len
  have HL2 := Lib.hid hs2.len
  rw [← HL.out] at H
  have wn : IntKind.i64.wrap ((n : Int) - 1) = (n : Int) - 1 := IntWalk.i64_in _ (by omega)
  go_enter Tryd.func40, Tryd.ntmps40
  go_wp2
  go_loopw [5] (fun i wr => ∃ k : Nat, k ≤ n2 ∧ i = .int .i64 k ∧ (∃ g, wr = ext w g) ∧ Hid (v = .bool (extOk n (prevE es k) (es.drop k)))) (fun i _ => n2 - (intOf i).toNat)
  case atStart => exact ⟨0, Nat.zero_le _, rfl, ext_ex (Bel.refl _), Lib.hid H.out.symm⟩
  case round =>
    obtain ⟨k, hk, rfl, ⟨g, rfl⟩, hv⟩ := hrel
    by_cases hlt : k < n2
    · obtain ⟨b, off, rfl, hb⟩ := hs2.base hlt
      obtain ⟨x, y, hx, hc0, hc1⟩ := hs2.at2 hlt
      rcases h1 : inB x 1 2 with _ | _
      · go_wp2_with (first | (go_at_call 49; refine (l00In_c _ _ _ _).mono ?_; rintro ee ww ⟨rfl, rfl⟩))
        all_goals (try ((refine region_ext (by kernel_rfl) (by kernel_rfl) ?_; (repeat (go_big_quiet_step (first | (go_at_call 49; exact Calls.in_same (l00In_c _ _ _ _))))); refine wpQuiet_nil ?_; rintro _ ⟨_, rfl⟩); go_wp2_with (first | (go_at_call 49; refine (l00In_c _ _ _ _).mono ?_; rintro ee ww ⟨rfl, rfl⟩))))
        go_ret
        refine Ret.mk ?_ (?_ : Bel _ _)
        · rw [hv.out, drop_cons_of hx.out]; simp [extOk, h1]
        · (repeat (first | with_reducible exact Bel.refl _ | with_reducible assumption | apply Bel.ext | apply Bel.alloc | apply Bel.drew | exact Bel.refl _ | refine Bel.set ?_ (by first | (simp; done) | (simp [go_sem]; done) | omega) _))
      rcases h2 : inB y 0 ((n : Int) - 1) with _ | _
      · go_wp2_with (first | (go_at_call 49; refine (l00In_c _ _ _ _).mono ?_; rintro ee ww ⟨rfl, rfl⟩))
        all_goals (try ((refine region_ext (by kernel_rfl) (by kernel_rfl) ?_; (repeat (go_big_quiet_step (first | (go_at_call 49; exact Calls.in_same (l00In_c _ _ _ _))))); refine wpQuiet_nil ?_; rintro _ ⟨_, rfl⟩); go_wp2_with (first | (go_at_call 49; refine (l00In_c _ _ _ _).mono ?_; rintro ee ww ⟨rfl, rfl⟩))))
        go_ret
        refine Ret.mk ?_ (?_ : Bel _ _)
        · rw [hv.out, drop_cons_of hx.out]; simp [extOk, h1, h2]
        · (repeat (first | with_reducible exact Bel.refl _ | with_reducible assumption | apply Bel.ext | apply Bel.alloc | apply Bel.drew | exact Bel.refl _ | refine Bel.set ?_ (by first | (simp; done) | (simp [go_sem]; done) | omega) _))
      by_cases h0 : 0 < k
      · have h0z : decide (0 < (k : Int)) = true := decide_eq_true (by omega)
        obtain ⟨x', y', hx', hd0, hd1⟩ := hs2.at2 (k := k - 1) (by omega)
        have HP := Lib.hid (prevE_pos h0 hx'.out)
        by_cases h4 : y ≤ y'
        · go_wp2_with (first | (go_at_call 49; refine (l00In_c _ _ _ _).mono ?_; rintro ee ww ⟨rfl, rfl⟩))
          all_goals (try ((refine region_ext (by kernel_rfl) (by kernel_rfl) ?_; (repeat (go_big_quiet_step (first | (go_at_call 49; exact Calls.in_same (l00In_c _ _ _ _))))); refine wpQuiet_nil ?_; rintro _ ⟨_, rfl⟩); go_wp2_with (first | (go_at_call 49; refine (l00In_c _ _ _ _).mono ?_; rintro ee ww ⟨rfl, rfl⟩))))
          go_ret
          refine Ret.mk ?_ (?_ : Bel _ _)
          · rw [hv.out, drop_cons_of hx.out, HP.out]; simp [extOk]; omega
          · (repeat (first | with_reducible exact Bel.refl _ | with_reducible assumption | apply Bel.ext | apply Bel.alloc | apply Bel.drew | exact Bel.refl _ | refine Bel.set ?_ (by first | (simp; done) | (simp [go_sem]; done) | omega) _))
        · go_wp2_with (first | (go_at_call 49; refine (l00In_c _ _ _ _).mono ?_; rintro ee ww ⟨rfl, rfl⟩))
          all_goals (try ((refine region_ext (by kernel_rfl) (by kernel_rfl) ?_; (repeat (go_big_quiet_step (first | (go_at_call 49; exact Calls.in_same (l00In_c _ _ _ _))))); refine wpQuiet_nil ?_; rintro _ ⟨_, rfl⟩); go_wp2_with (first | (go_at_call 49; refine (l00In_c _ _ _ _).mono ?_; rintro ee ww ⟨rfl, rfl⟩))))
          go_roundw
          case rel =>
            refine ⟨k + 1, by omega, by go_num, ext_ex (by (repeat (first | with_reducible exact Bel.refl _ | with_reducible assumption | apply Bel.ext | apply Bel.alloc | apply Bel.drew | exact Bel.refl _ | refine Bel.set ?_ (by first | (simp; done) | (simp [go_sem]; done) | omega) _)) : Bel _ _), Lib.hid ?_⟩
            rw [hv.out, drop_cons_of hx.out, HP.out, prevE_succ hx.out]; simp [extOk, h1, h2, show y' < y from by omega]
          case measure => simp [intOf]; omega
      · have h0z : decide (0 < (k : Int)) = false := by simp; omega
        go_wp2_with (first | (go_at_call 49; refine (l00In_c _ _ _ _).mono ?_; rintro ee ww ⟨rfl, rfl⟩))
        all_goals (try ((refine region_ext (by kernel_rfl) (by kernel_rfl) ?_; (repeat (go_big_quiet_step (first | (go_at_call 49; exact Calls.in_same (l00In_c _ _ _ _))))); refine wpQuiet_nil ?_; rintro _ ⟨_, rfl⟩); go_wp2_with (first | (go_at_call 49; refine (l00In_c _ _ _ _).mono ?_; rintro ee ww ⟨rfl, rfl⟩))))
        go_roundw
        case rel =>
          refine ⟨k + 1, by omega, by go_num, ext_ex (by (repeat (first | with_reducible exact Bel.refl _ | with_reducible assumption | apply Bel.ext | apply Bel.alloc | apply Bel.drew | exact Bel.refl _ | refine Bel.set ?_ (by first | (simp; done) | (simp [go_sem]; done) | omega) _)) : Bel _ _), Lib.hid ?_⟩
          have hp : prevE es k = none := by rw [show k = 0 from by omega]; rfl
          rw [hv.out, drop_cons_of hx.out, hp, prevE_succ hx.out]; simp [extOk, h1, h2]
        case measure => simp [intOf]; omega
    · go_wp2
      go_ret
      refine Ret.mk ?_ (?_ : Bel _ _)
      · rw [hv.out, List.drop_of_length_le (by rw [← HL2.out]; omega)]; simp [extOk]
      · (repeat (first | with_reducible exact Bel.refl _ | with_reducible assumption | apply Bel.ext | apply Bel.alloc | apply Bel.drew | exact Bel.refl _ | refine Bel.set ?_ (by first | (simp; done) | (simp [go_sem]; done) | omega) _))
end Go.Proofs.YtdneffnnpjgnbacDoor
