/- The code of a list that may be an assignment; whether it is one; program and reference. -/
import Derived.Test.YthahkoclkjfkdaaAssn
namespace Go.Proofs.Ythahkoclkjfkdaa
open Go.RowKit

set_option maxHeartbeats 400000 in
theorem countI_c (a : Option Addr) (n c : Nat) (h : (n : Int) ≤ 9223372036854775807) (w : World) : Calls Try.prog 48 #[.slice a n c] w (Same (.int .i64 n) w) := by
  refine hide_same fun v H => ?_
  have wn : IntKind.i64.wrap (n : Int) = (n : Int) := IntWalk.i64_in _ (by omega)
  go_enter Try.func48, Try.ntmps48
  go_wp2
  go_ret
  exact Same.mk (by rw [← H.out]; rfl)
set_option maxHeartbeats 2000000 in
theorem assignable_c (u : Value) (xss : List (List Int)) (u2 : Value) (ls : List Int) (w : World) (hu : RdN w u xss) (hu2 : Rd celI w u2 ls) :
    Calls Try.prog 51 #[u, u2] w (Ret (.int .i64 (assignCode xss ls)) w) := by
  refine hide_ret fun v H => ?_
  have HV := Lib.hid (fun w hu => ValidWorths_c u xss w hu)
  have hfine := worthsB_fine (xss := xss)
  have hu' := hu; have hu2' := hu2
  obtain ⟨a, n, c, rfl, hs⟩ := hu
  obtain ⟨a2, n2, c2, rfl, hs2⟩ := hu2.sl
  have hcap := hs.le; have hmax := hs.cap
  have hcap2 := hs2.le; have hmax2 := hs2.cap
  unfold maxLen at hmax hmax2
  have HL := Lib.hid hs.len
  have HL2 := Lib.hid hs2.len
  unfold assignCode at H
  rw [← HL.out, ← HL2.out] at H
  rcases h1 : worthsB xss with _ | _
  · rw [h1] at H HV
    have H2 := Lib.hid H.out
    clear h1 hfine
    go_enter Try.func51, Try.ntmps51
    go_wp2_with (first | (go_at_call 15; refine Calls.mono (HV.out _ (hu'.bel ?_)) ?_; (focus (repeat (first | with_reducible exact Bel.refl _ | apply Bel.ext | apply Bel.alloc | apply Bel.drew | exact Bel.refl _))); rintro ee ww ⟨rfl, _, rfl⟩))
    go_ret
    refine Ret.mk ?_ (?_ : Bel _ _)
    · rw [← H2.out]; simp
    · (repeat (first | with_reducible exact Bel.refl _ | apply Bel.ext | apply Bel.alloc | apply Bel.drew | exact Bel.refl _ | refine Bel.set ?_ (by first | (simp; done) | (simp [go_sem]; done) | omega) _))
  obtain ⟨f1, f2, f3, f4, f5⟩ := hfine h1
  rw [← HL.out] at f1 f2
  rw [h1] at H HV
  obtain ⟨b, off, rfl, hb⟩ := hs.base (k := 0) (by omega)
  obtain ⟨a0, n0, c0, xs0, hx0, hd0, hs0⟩ := hs.row (k := 0) (by omega)
  rw [Nat.add_zero] at hd0
  have hl0 := hs0.len
  have hci0 := hs0.le; have hcm0 := hs0.cap
  unfold maxLen at hcm0
  rw [wid_of hx0.out, ← hl0] at H f3 f4
  clear hl0 f5 h1 hfine
  have z0 : (0 : Int) < n := by omega
  by_cases q1 : n2 = n
  · have q1z : ((n2 : Int) != n) = false := by simp [q1]
    have w1 : IntKind.i64.wrap ((n0 : Int) - 1) = (n0 : Int) - 1 := IntWalk.i64_in _ (by omega)
    have HA := Lib.hid (fun x (hx : Bel w x) => allIn_c _ ls (-1) ((n0 : Int) - 1) x (hu2'.bel hx))
    rw [decide_eq_true q1] at H
    generalize (ls.all fun x => inB x (-1) ((n0 : Int) - 1)) = q at *
    clear q1
    cases q
    all_goals
      go_enter Try.func51, Try.ntmps51
      go_wp2_with (first | (go_at_call 15; refine Calls.mono (HV.out _ (hu'.bel ?_)) ?_; (focus (repeat (first | with_reducible exact Bel.refl _ | apply Bel.ext | apply Bel.alloc | apply Bel.drew | exact Bel.refl _))); rintro ee ww ⟨rfl, _, rfl⟩) | (go_at_call 48; refine (countI_c _ _ _ (by omega) _).mono ?_; rintro ee ww ⟨rfl, rfl⟩) | (go_at_call 40; refine Calls.mono (HA.out _ ?_) ?_; (focus (repeat (first | with_reducible exact Bel.refl _ | apply Bel.ext | apply Bel.alloc | apply Bel.drew | exact Bel.refl _))); rintro ee ww ⟨rfl, _, rfl⟩))
      go_ret
      refine Ret.mk ?_ (?_ : Bel _ _)
      · rw [← H.out]; simp
      · (repeat (first | with_reducible exact Bel.refl _ | apply Bel.ext | apply Bel.alloc | apply Bel.drew | exact Bel.refl _ | refine Bel.set ?_ (by first | (simp; done) | (simp [go_sem]; done) | omega) _))
  · have q1z : ((n2 : Int) != n) = true := by simp; omega
    rw [decide_eq_false q1] at H
    go_enter Try.func51, Try.ntmps51
    go_wp2_with (first | (go_at_call 15; refine Calls.mono (HV.out _ (hu'.bel ?_)) ?_; (focus (repeat (first | with_reducible exact Bel.refl _ | apply Bel.ext | apply Bel.alloc | apply Bel.drew | exact Bel.refl _))); rintro ee ww ⟨rfl, _, rfl⟩))
    go_ret
    refine Ret.mk ?_ (?_ : Bel _ _)
    · rw [← H.out]; simp
    · (repeat (first | with_reducible exact Bel.refl _ | apply Bel.ext | apply Bel.alloc | apply Bel.drew | exact Bel.refl _ | refine Bel.set ?_ (by first | (simp; done) | (simp [go_sem]; done) | omega) _))
set_option maxHeartbeats 2000000 in
theorem l17Code_c (u : Value) (xss : List (List Int)) (u2 : Value) (ls : List Int) (w : World) (hu : RdN w u xss) (hu2 : Rd celI w u2 ls) :
    Calls Try.prog 49 #[u, u2] w (Ret (.int .i64 (assignCode xss ls)) w) := by
  refine hide_ret fun v H => ?_
  have HV := Lib.hid (fun w hu => l17Ok_c u xss w hu)
  have hfine := worthsB_fine (xss := xss)
  have hu' := hu
  obtain ⟨a, n, c, rfl, hs⟩ := hu
  obtain ⟨a2, n2, c2, rfl, hs2⟩ := hu2.sl
  have hcap := hs.le; have hmax := hs.cap
  have hcap2 := hs2.le; have hmax2 := hs2.cap
  unfold maxLen at hmax hmax2
  have HL := Lib.hid hs.len
  have HL2 := Lib.hid hs2.len
  unfold assignCode at H
  rw [← HL.out, ← HL2.out] at H
  rcases h1 : worthsB xss with _ | _
  · rw [h1] at H HV
    have H2 := Lib.hid H.out
    clear h1 hfine
    go_enter Try.func49, Try.ntmps49
    go_wp2_with (first | (go_at_call 39; refine Calls.mono (HV.out _ (hu'.bel ?_)) ?_; (focus (repeat (first | with_reducible exact Bel.refl _ | apply Bel.ext | apply Bel.alloc | apply Bel.drew | exact Bel.refl _))); rintro ee ww ⟨rfl, _, rfl⟩))
    go_ret
    refine Ret.mk ?_ (?_ : Bel _ _)
    · rw [← H2.out]; simp
    · (repeat (first | with_reducible exact Bel.refl _ | apply Bel.ext | apply Bel.alloc | apply Bel.drew | exact Bel.refl _ | refine Bel.set ?_ (by first | (simp; done) | (simp [go_sem]; done) | omega) _))
  obtain ⟨f1, f2, f3, f4, f5⟩ := hfine h1
  rw [← HL.out] at f1 f2
  rw [h1] at H HV
  obtain ⟨b, off, rfl, hb⟩ := hs.base (k := 0) (by omega)
  obtain ⟨a0, n0, c0, xs0, hx0, hd0, hs0⟩ := hs.row (k := 0) (by omega)
  rw [Nat.add_zero] at hd0
  have hl0 := hs0.len
  have hci0 := hs0.le; have hcm0 := hs0.cap
  unfold maxLen at hcm0
  rw [wid_of hx0.out, ← hl0] at H f3 f4
  clear hl0 f5 h1 hfine
  have z0 : (0 : Int) < n := by omega
  by_cases q1 : n2 = n
  · have q1z : ((n2 : Int) != n) = false := by simp [q1]
    have w0 : IntKind.i64.wrap (n0 : Int) = (n0 : Int) := IntWalk.i64_in _ (by omega)
    have w1 : IntKind.i64.wrap ((n0 : Int) - 1) = (n0 : Int) - 1 := IntWalk.i64_in _ (by omega)
    rw [decide_eq_true q1] at H
    clear q1
    go_enter Try.func49, Try.ntmps49
    go_wp2_with (first | (go_at_call 39; refine Calls.mono (HV.out _ (hu'.bel ?_)) ?_; (focus (repeat (first | with_reducible exact Bel.refl _ | apply Bel.ext | apply Bel.alloc | apply Bel.drew | exact Bel.refl _))); rintro ee ww ⟨rfl, _, rfl⟩))
    go_loopw [5] (fun i wr => ∃ k : Nat, k ≤ n2 ∧ i = .int .i64 k ∧ (∃ g, wr = ext w g) ∧ Hid (v = .int .i64 (if (!(ls.drop k).all fun x => inB x (-1) ((n0 : Int) - 1)) = true then 2 else 0))) (fun i _ => n2 - (intOf i).toNat)
    case atStart => exact ⟨0, Nat.zero_le _, rfl, ext_ex (by (repeat (first | with_reducible exact Bel.refl _ | apply Bel.ext | apply Bel.alloc | apply Bel.drew | exact Bel.refl _ | refine Bel.set ?_ (by first | (simp; done) | (simp [go_sem]; done) | omega) _)) : Bel _ _), Lib.hid (by rw [← H.out]; simp)⟩
    case round =>
      obtain ⟨k, hk, rfl, ⟨g, rfl⟩, hv⟩ := hrel
      by_cases hlt : k < n2
      · obtain ⟨b2, off2, rfl, hb2⟩ := hs2.base hlt
        obtain ⟨y, hy, hc⟩ := hs2.at1 hlt
        have HI := Lib.hid (fun w => l00In_c y (-1) ((n0 : Int) - 1) w)
        have hvv := hv.out
        rw [all_drop hy.out] at hvv
        have z1 : (0 : Int) ≤ k := by omega
        have z2 : (k : Int) < n2 := by omega
        generalize inB y (-1) ((n0 : Int) - 1) = q at *
        clear hv
        cases q
        · have HV := Lib.hid hvv
          clear hvv
          go_wp2_with fail
          refine region_ext (by kernel_rfl) (by kernel_rfl) ?_
          repeat (go_big_quiet_step (first | (go_at_call 42; exact Calls.in_same (HI.out _))))
          refine wpQuiet_nil ?_
          rintro _ ⟨_, rfl⟩
          go_wp2
          go_ret
          refine Ret.mk ?_ (?_ : Bel _ _)
          · rw [HV.out]; simp
          · (repeat (first | with_reducible exact Bel.refl _ | apply Bel.ext | apply Bel.alloc | apply Bel.drew | exact Bel.refl _ | refine Bel.set ?_ (by first | (simp; done) | (simp [go_sem]; done) | omega) _))
        · have HV := Lib.hid hvv
          clear hvv
          go_wp2_with fail
          refine region_ext (by kernel_rfl) (by kernel_rfl) ?_
          repeat (go_big_quiet_step (first | (go_at_call 42; exact Calls.in_same (HI.out _))))
          refine wpQuiet_nil ?_
          rintro _ ⟨_, rfl⟩
          go_wp2
          go_roundw
          case rel =>
            refine ⟨k + 1, by omega, by go_num, ext_ex (by (repeat (first | with_reducible exact Bel.refl _ | apply Bel.ext | apply Bel.alloc | apply Bel.drew | exact Bel.refl _ | refine Bel.set ?_ (by first | (simp; done) | (simp [go_sem]; done) | omega) _)) : Bel _ _), Lib.hid ?_⟩
            rw [HV.out]; simp
          case measure => simp [intOf]; omega
      · have hvv := hv.out
        rw [all_end (by rw [← HL2.out]; omega)] at hvv
        have HV := Lib.hid hvv
        clear hvv hv
        go_wp2
        go_ret
        refine Ret.mk ?_ (?_ : Bel _ _)
        · rw [HV.out]; simp
        · (repeat (first | with_reducible exact Bel.refl _ | apply Bel.ext | apply Bel.alloc | apply Bel.drew | exact Bel.refl _ | refine Bel.set ?_ (by first | (simp; done) | (simp [go_sem]; done) | omega) _))
  · have q1z : ((n2 : Int) != n) = true := by simp; omega
    rw [decide_eq_false q1] at H
    go_enter Try.func49, Try.ntmps49
    go_wp2_with (first | (go_at_call 39; refine Calls.mono (HV.out _ (hu'.bel ?_)) ?_; (focus (repeat (first | with_reducible exact Bel.refl _ | apply Bel.ext | apply Bel.alloc | apply Bel.drew | exact Bel.refl _))); rintro ee ww ⟨rfl, _, rfl⟩))
    go_ret
    refine Ret.mk ?_ (?_ : Bel _ _)
    · rw [← H.out]; simp
    · (repeat (first | with_reducible exact Bel.refl _ | apply Bel.ext | apply Bel.alloc | apply Bel.drew | exact Bel.refl _ | refine Bel.set ?_ (by first | (simp; done) | (simp [go_sem]; done) | omega) _))
set_option maxHeartbeats 1000000 in
theorem IsAssignment_c (u : Value) (xss : List (List Int)) (u2 : Value) (ls : List Int) (w : World) (hu : RdN w u xss) (hu2 : Rd celI w u2 ls) :
    Calls Try.prog 26 #[u, u2] w (Ret (.tuple #[.bool (isAssI xss ls).1, .int .i64 (isAssI xss ls).2]) w) := by
  refine hide_ret fun v H => ?_
  have HS := Lib.hid (fun w hu hu2 => assignable_c u xss u2 ls w hu hu2)
  have HP := Lib.hid (fun w hu2 => isAssignment_c u2 ls w hu2)
  unfold isAssI at H
  generalize assignCode xss ls = c at *
  generalize apartB ls 0 ls = q at *
  by_cases h : c = 0
  · subst h
    simp only [ne_eq, not_true_eq_false, if_false] at H
    go_enter Try.func26, Try.ntmps26
    go_wp2_with (first | (go_at_call 51; refine Calls.mono (HS.out _ (hu.bel ?_) (hu2.bel ?_)) ?_; (focus (repeat (first | with_reducible exact Bel.refl _ | apply Bel.ext | apply Bel.alloc | apply Bel.drew | exact Bel.refl _))); (focus (repeat (first | with_reducible exact Bel.refl _ | apply Bel.ext | apply Bel.alloc | apply Bel.drew | exact Bel.refl _))); rintro ee ww ⟨rfl, _, rfl⟩) | (go_at_call 52; refine Calls.mono (HP.out _ (hu2.bel ?_)) ?_; (focus (repeat (first | with_reducible exact Bel.refl _ | apply Bel.ext | apply Bel.alloc | apply Bel.drew | exact Bel.refl _))); rintro ee ww ⟨rfl, _, rfl⟩))
    go_ret2
    refine Ret.mk ?_ (?_ : Bel _ _)
    · exact H.out
    · (repeat (first | with_reducible exact Bel.refl _ | apply Bel.ext | apply Bel.alloc | apply Bel.drew | exact Bel.refl _ | refine Bel.set ?_ (by first | (simp; done) | (simp [go_sem]; done) | omega) _))
  · simp only [ne_eq, h, not_false_eq_true, if_true] at H
    have hz : (c != 0) = true := by simp [h]
    go_enter Try.func26, Try.ntmps26
    go_wp2_with (first | (go_at_call 51; refine Calls.mono (HS.out _ (hu.bel ?_) (hu2.bel ?_)) ?_; (focus (repeat (first | with_reducible exact Bel.refl _ | apply Bel.ext | apply Bel.alloc | apply Bel.drew | exact Bel.refl _))); (focus (repeat (first | with_reducible exact Bel.refl _ | apply Bel.ext | apply Bel.alloc | apply Bel.drew | exact Bel.refl _))); rintro ee ww ⟨rfl, _, rfl⟩) | (go_at_call 52; refine Calls.mono (HP.out _ (hu2.bel ?_)) ?_; (focus (repeat (first | with_reducible exact Bel.refl _ | apply Bel.ext | apply Bel.alloc | apply Bel.drew | exact Bel.refl _))); rintro ee ww ⟨rfl, _, rfl⟩))
    go_ret2
    refine Ret.mk ?_ (?_ : Bel _ _)
    · exact H.out
    · (repeat (first | with_reducible exact Bel.refl _ | apply Bel.ext | apply Bel.alloc | apply Bel.drew | exact Bel.refl _ | refine Bel.set ?_ (by first | (simp; done) | (simp [go_sem]; done) | omega) _))
set_option maxHeartbeats 1000000 in
theorem sIsAssignment_c (u : Value) (xss : List (List Int)) (u2 : Value) (ls : List Int) (w : World) (hu : RdN w u xss) (hu2 : Rd celI w u2 ls) :
    Calls Try.prog 25 #[u, u2] w (Ret (.tuple #[.bool (isAssI xss ls).1, .int .i64 (isAssI xss ls).2]) w) := by
  refine hide_ret fun v H => ?_
  have HS := Lib.hid (fun w hu hu2 => l17Code_c u xss u2 ls w hu hu2)
  have HP := Lib.hid (fun w hu2 => l17Apart_c u2 ls w hu2)
  unfold isAssI at H
  generalize assignCode xss ls = c at *
  generalize apartB ls 0 ls = q at *
  by_cases h : c = 0
  · subst h
    simp only [ne_eq, not_true_eq_false, if_false] at H
    go_enter Try.func25, Try.ntmps25
    go_wp2_with (first | (go_at_call 49; refine Calls.mono (HS.out _ (hu.bel ?_) (hu2.bel ?_)) ?_; (focus (repeat (first | with_reducible exact Bel.refl _ | apply Bel.ext | apply Bel.alloc | apply Bel.drew | exact Bel.refl _))); (focus (repeat (first | with_reducible exact Bel.refl _ | apply Bel.ext | apply Bel.alloc | apply Bel.drew | exact Bel.refl _))); rintro ee ww ⟨rfl, _, rfl⟩) | (go_at_call 50; refine Calls.mono (HP.out _ (hu2.bel ?_)) ?_; (focus (repeat (first | with_reducible exact Bel.refl _ | apply Bel.ext | apply Bel.alloc | apply Bel.drew | exact Bel.refl _))); rintro ee ww ⟨rfl, _, rfl⟩))
    go_ret2
    refine Ret.mk ?_ (?_ : Bel _ _)
    · exact H.out
    · (repeat (first | with_reducible exact Bel.refl _ | apply Bel.ext | apply Bel.alloc | apply Bel.drew | exact Bel.refl _ | refine Bel.set ?_ (by first | (simp; done) | (simp [go_sem]; done) | omega) _))
  · simp only [ne_eq, h, not_false_eq_true, if_true] at H
    have hz : (c != 0) = true := by simp [h]
    go_enter Try.func25, Try.ntmps25
    go_wp2_with (first | (go_at_call 49; refine Calls.mono (HS.out _ (hu.bel ?_) (hu2.bel ?_)) ?_; (focus (repeat (first | with_reducible exact Bel.refl _ | apply Bel.ext | apply Bel.alloc | apply Bel.drew | exact Bel.refl _))); (focus (repeat (first | with_reducible exact Bel.refl _ | apply Bel.ext | apply Bel.alloc | apply Bel.drew | exact Bel.refl _))); rintro ee ww ⟨rfl, _, rfl⟩) | (go_at_call 50; refine Calls.mono (HP.out _ (hu2.bel ?_)) ?_; (focus (repeat (first | with_reducible exact Bel.refl _ | apply Bel.ext | apply Bel.alloc | apply Bel.drew | exact Bel.refl _))); rintro ee ww ⟨rfl, _, rfl⟩))
    go_ret2
    refine Ret.mk ?_ (?_ : Bel _ _)
    · exact H.out
    · (repeat (first | with_reducible exact Bel.refl _ | apply Bel.ext | apply Bel.alloc | apply Bel.drew | exact Bel.refl _ | refine Bel.set ?_ (by first | (simp; done) | (simp [go_sem]; done) | omega) _))
end Go.Proofs.Ythahkoclkjfkdaa
