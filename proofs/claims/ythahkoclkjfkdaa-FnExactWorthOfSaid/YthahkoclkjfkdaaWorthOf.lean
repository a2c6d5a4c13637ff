/- The worth of an assignment; program and reference. -/
import Derived.Test.YthahkoclkjfkdaaAssn2
namespace Go.Proofs.Ythahkoclkjfkdaa
open Go.RowKit

theorem assign_fine {xss : List (List Int)} {ls : List Int} (h : assignCode xss ls = 0) : worthsB xss = true ∧ ls.length = xss.length ∧ ∀ x ∈ ls, -1 ≤ x ∧ x ≤ (wid xss : Int) - 1 := by
  unfold assignCode at h
  split at h
  · omega
  split at h
  · omega
  split at h
  · omega
  rename_i h1 h2 h3
  simp at h1 h2
  refine ⟨h1, h2, fun x hx => ?_⟩
  simp only [Bool.not_eq_true, Bool.not_eq_false', List.all_eq_true] at h3
  exact inB_iff.1 (h3 x hx)
theorem worthFrom_at {xss : List (List Int)} {ls : List Int} {k : Nat} {s : Int} (h : ls[k]? = some s) : worthFrom xss k (ls.drop k) = (if 0 ≤ s then (xss.getD k []).getD s.toNat 0 else 0) + worthFrom xss (k + 1) (ls.drop (k + 1)) := by
  rw [drop_cons_of h, worthFrom]
set_option maxHeartbeats 2000000 in
theorem l17Worth_c (u : Value) (xss : List (List Int)) (u2 : Value) (ls : List Int) (hA : assignCode xss ls = 0) (w : World) (hu : RdN w u xss) (hu2 : Rd celI w u2 ls) :
    Calls Try.prog 53 #[u, u2] w (Ret (.int .i64 (worthFrom xss 0 ls)) w) := by
  refine hide_ret fun v H => ?_
  obtain ⟨hw, hll, hb⟩ := assign_fine hA
  obtain ⟨f1, f2, f3, f4, f5⟩ := worthsB_fine hw
  obtain ⟨a, n, c, rfl, hs⟩ := hu
  obtain ⟨a2, n2, c2, rfl, hs2⟩ := hu2.sl
  have hcap := hs.le; have hmax := hs.cap
  have hcap2 := hs2.le; have hmax2 := hs2.cap
  unfold maxLen at hmax hmax2
  have HL := Lib.hid hs.len
  have HL2 := Lib.hid hs2.len
  have hn : n2 = n := by rw [HL.out, HL2.out, hll]
  subst hn
  rw [← HL.out] at f1 f2
  clear hA hw hll
  go_enter Try.func53, Try.ntmps53
  go_wp2
  go_loopw [5, 6] (fun t i wr => ∃ (k : Nat) (r : Int), k ≤ n2 ∧ i = .int .i64 k ∧ t = .int .i64 r ∧ 0 ≤ r ∧ r ≤ 1000 * (k : Int) ∧ (∃ g, wr = ext w g) ∧ Hid (v = .int .i64 (r + worthFrom xss k (ls.drop k)))) (fun _ i _ => n2 - (intOf i).toNat)
  case atStart => exact ⟨0, 0, Nat.zero_le _, rfl, rfl, by omega, by omega, ext_ex (Bel.refl _), Lib.hid (by rw [← H.out]; simp)⟩
  case round =>
    obtain ⟨k, r, hk, rfl, rfl, hr1, hr2, ⟨g, rfl⟩, hv⟩ := hrel
    by_cases hlt : k < n2
    · obtain ⟨b2, off2, rfl, hb2⟩ := hs2.base hlt
      obtain ⟨s, hsx, hcs⟩ := hs2.at1 hlt
      have hvv := hv.out
      rw [worthFrom_at hsx.out] at hvv
      obtain ⟨s1, s2⟩ := hb s (List.mem_of_getElem? hsx.out)
      clear hv
      by_cases h0 : 0 ≤ s
      · obtain ⟨b, off, rfl, hbb⟩ := hs.base hlt
        obtain ⟨ai, ni, ci, xs, hx, hc0, hsi⟩ := hs.row hlt
        have hci := hsi.le; have hcm := hsi.cap
        unfold maxLen at hcm
        obtain ⟨e1, e2⟩ := f5 xs (List.mem_of_getElem? hx.out)
        have e3 := hsi.len
        obtain ⟨j, rfl⟩ : ∃ j : Nat, s = j := ⟨s.toNat, by omega⟩
        have hj : j < ni := by omega
        obtain ⟨bi, oi, rfl, hbi⟩ := hsi.base hj
        obtain ⟨y, hy, hcy⟩ := hsi.at1 hj
        obtain ⟨y1, y2⟩ := e2 y (List.mem_of_getElem? hy.out)
        have z1 : (0 : Int) ≤ k := by omega
        have z2 : (k : Int) < n2 := by omega
        have z3 : (j : Int) < ni := by omega
        have w1 : IntKind.i64.wrap (r + y) = r + y := IntWalk.i64_in _ (by omega)
        rw [if_pos h0, getD_of hx.out, Int.toNat_natCast, getD_of hy.out] at hvv
        have HV := Lib.hid hvv
        clear hvv e2 f5 hb
        go_wp2_with fail
        refine region_ext (by kernel_rfl) (by kernel_rfl) ?_
        repeat (go_big_quiet_step (fail))
        refine wpQuiet_nil ?_
        rintro _ ⟨_, rfl⟩
        go_wp2
        go_roundw
        case rel =>
          refine ⟨k + 1, r + y, by omega, by go_num, by go_num, by omega, by omega, ext_ex (by (repeat (first | with_reducible exact Bel.refl _ | apply Bel.ext | apply Bel.alloc | apply Bel.drew | exact Bel.refl _ | refine Bel.set ?_ (by first | (simp; done) | (simp [go_sem]; done) | omega) _)) : Bel _ _), Lib.hid ?_⟩
          rw [HV.out, Int.add_assoc]
        case measure => simp [intOf]; omega
      · rw [if_neg h0] at hvv
        have HV := Lib.hid hvv
        clear hvv f5 hb
        go_wp2
        go_roundw
        case rel =>
          refine ⟨k + 1, r, by omega, by go_num, rfl, by omega, by omega, ext_ex (by (repeat (first | with_reducible exact Bel.refl _ | apply Bel.ext | apply Bel.alloc | apply Bel.drew | exact Bel.refl _ | refine Bel.set ?_ (by first | (simp; done) | (simp [go_sem]; done) | omega) _)) : Bel _ _), Lib.hid ?_⟩
          rw [HV.out]; simp
        case measure => simp [intOf]; omega
    · go_wp2
      go_ret
      refine Ret.mk ?_ (?_ : Bel _ _)
      · rw [hv.out, List.drop_of_length_le (by rw [← HL2.out]; omega), worthFrom]; simp
      · (repeat (first | with_reducible exact Bel.refl _ | apply Bel.ext | apply Bel.alloc | apply Bel.drew | exact Bel.refl _ | refine Bel.set ?_ (by first | (simp; done) | (simp [go_sem]; done) | omega) _))
set_option maxHeartbeats 2000000 in
theorem WorthOf_c (u : Value) (xss : List (List Int)) (u2 : Value) (ls : List Int) (w : World) (hu : RdN w u xss) (hu2 : Rd celI w u2 ls) :
    Calls Try.prog 28 #[u, u2] w (Ret (.tuple #[.int .i64 (worthI xss ls).1, .int .i64 (worthI xss ls).2]) w) := by
  refine hide_ret fun v H => ?_
  have HS := Lib.hid (fun w hu hu2 => assignable_c u xss u2 ls w hu hu2)
  have HP := Lib.hid (fun w hu2 => isAssignment_c u2 ls w hu2)
  unfold worthI at H
  by_cases h : assignCode xss ls = 0
  case neg =>
    generalize assignCode xss ls = c at *
    simp only [ne_eq, h, not_false_eq_true, if_true] at H
    have hz : (c != 0) = true := by simp [h]
    go_enter Try.func28, Try.ntmps28
    go_wp2_with (first | (go_at_call 51; refine Calls.mono (HS.out _ (hu.bel ?_) (hu2.bel ?_)) ?_; (focus (repeat (first | with_reducible exact Bel.refl _ | apply Bel.ext | apply Bel.alloc | apply Bel.drew | exact Bel.refl _))); (focus (repeat (first | with_reducible exact Bel.refl _ | apply Bel.ext | apply Bel.alloc | apply Bel.drew | exact Bel.refl _))); rintro ee ww ⟨rfl, _, rfl⟩))
    go_ret2
    refine Ret.mk ?_ (?_ : Bel _ _)
    · exact H.out
    · (repeat (first | with_reducible exact Bel.refl _ | apply Bel.ext | apply Bel.alloc | apply Bel.drew | exact Bel.refl _ | refine Bel.set ?_ (by first | (simp; done) | (simp [go_sem]; done) | omega) _))
  obtain ⟨hw, hll, hb⟩ := assign_fine h
  obtain ⟨f1, f2, f3, f4, f5⟩ := worthsB_fine hw
  rw [h] at H HS
  simp only [ne_eq, not_true_eq_false, if_false] at H
  rcases hq : apartB ls 0 ls with _ | _
  · rw [hq] at H HP
    simp only [Bool.not_false, if_true] at H
    clear hq h hw hll hb f5
    go_enter Try.func28, Try.ntmps28
    go_wp2_with (first | (go_at_call 51; refine Calls.mono (HS.out _ (hu.bel ?_) (hu2.bel ?_)) ?_; (focus (repeat (first | with_reducible exact Bel.refl _ | apply Bel.ext | apply Bel.alloc | apply Bel.drew | exact Bel.refl _))); (focus (repeat (first | with_reducible exact Bel.refl _ | apply Bel.ext | apply Bel.alloc | apply Bel.drew | exact Bel.refl _))); rintro ee ww ⟨rfl, _, rfl⟩) | (go_at_call 52; refine Calls.mono (HP.out _ (hu2.bel ?_)) ?_; (focus (repeat (first | with_reducible exact Bel.refl _ | apply Bel.ext | apply Bel.alloc | apply Bel.drew | exact Bel.refl _))); rintro ee ww ⟨rfl, _, rfl⟩))
    go_ret2
    refine Ret.mk ?_ (?_ : Bel _ _)
    · exact H.out
    · (repeat (first | with_reducible exact Bel.refl _ | apply Bel.ext | apply Bel.alloc | apply Bel.drew | exact Bel.refl _ | refine Bel.set ?_ (by first | (simp; done) | (simp [go_sem]; done) | omega) _))
  rw [hq] at H HP
  simp only [Bool.not_true, Bool.false_eq_true, if_false] at H
  have hu' := hu; have hu2' := hu2
  obtain ⟨a, n, c, rfl, hs⟩ := hu
  obtain ⟨a2, n2, c2, rfl, hs2⟩ := hu2.sl
  have hcap := hs.le; have hmax := hs.cap
  have hcap2 := hs2.le; have hmax2 := hs2.cap
  unfold maxLen at hmax hmax2
  have HL := Lib.hid hs.len
  have HL2 := Lib.hid hs2.len
  have hn : n2 = n := by rw [HL.out, HL2.out, hll]
  subst hn
  rw [← HL.out] at f1 f2
  clear hq h hw hll
  go_enter Try.func28, Try.ntmps28
  go_wp2_with (first | (go_at_call 51; refine Calls.mono (HS.out _ (hu'.bel ?_) (hu2'.bel ?_)) ?_; (focus (repeat (first | with_reducible exact Bel.refl _ | apply Bel.ext | apply Bel.alloc | apply Bel.drew | exact Bel.refl _))); (focus (repeat (first | with_reducible exact Bel.refl _ | apply Bel.ext | apply Bel.alloc | apply Bel.drew | exact Bel.refl _))); rintro ee ww ⟨rfl, _, rfl⟩) | (go_at_call 52; refine Calls.mono (HP.out _ (hu2'.bel ?_)) ?_; (focus (repeat (first | with_reducible exact Bel.refl _ | apply Bel.ext | apply Bel.alloc | apply Bel.drew | exact Bel.refl _))); rintro ee ww ⟨rfl, _, rfl⟩))
  go_loopw [7, 8, 9, 21] (fun t _ _ i wr => ∃ (k : Nat) (r : Int), k ≤ n2 ∧ i = .int .i64 k ∧ t = .int .i64 r ∧ 0 ≤ r ∧ r ≤ 1000 * (k : Int) ∧ (∃ g, wr = ext w g) ∧ Hid (v = .tuple #[.int .i64 (r + worthFrom xss k (ls.drop k)), .int .i64 0])) (fun _ _ _ i _ => n2 - (intOf i).toNat)
  case atStart => exact ⟨0, 0, Nat.zero_le _, rfl, rfl, by omega, by omega, ext_ex (by (repeat (first | with_reducible exact Bel.refl _ | apply Bel.ext | apply Bel.alloc | apply Bel.drew | exact Bel.refl _ | refine Bel.set ?_ (by first | (simp; done) | (simp [go_sem]; done) | omega) _)) : Bel _ _), Lib.hid (by rw [← H.out]; simp)⟩
  case round =>
    obtain ⟨k, r, hk, rfl, rfl, hr1, hr2, ⟨g, rfl⟩, hv⟩ := hrel
    by_cases hlt : k < n2
    · obtain ⟨b2, off2, rfl, hb2⟩ := hs2.base hlt
      obtain ⟨s, hsx, hcs⟩ := hs2.at1 hlt
      have hvv := hv.out
      rw [worthFrom_at hsx.out] at hvv
      obtain ⟨s1, s2⟩ := hb s (List.mem_of_getElem? hsx.out)
      clear hv
      by_cases h0 : 0 ≤ s
      · obtain ⟨b, off, rfl, hbb⟩ := hs.base hlt
        obtain ⟨ai, ni, ci, xs, hx, hc0, hsi⟩ := hs.row hlt
        have hci := hsi.le; have hcm := hsi.cap
        unfold maxLen at hcm
        obtain ⟨e1, e2⟩ := f5 xs (List.mem_of_getElem? hx.out)
        have e3 := hsi.len
        obtain ⟨j, rfl⟩ : ∃ j : Nat, s = j := ⟨s.toNat, by omega⟩
        have hj : j < ni := by omega
        obtain ⟨bi, oi, rfl, hbi⟩ := hsi.base hj
        obtain ⟨y, hy, hcy⟩ := hsi.at1 hj
        obtain ⟨y1, y2⟩ := e2 y (List.mem_of_getElem? hy.out)
        have z3 : (j : Int) < ni := by omega
        rw [if_pos h0, getD_of hx.out, Int.toNat_natCast, getD_of hy.out] at hvv
        have HV := Lib.hid hvv
        clear hvv e2 f5 hb
        go_wp2
        go_roundw
        case rel =>
          refine ⟨k + 1, r + y, by omega, by go_num, by go_num, by omega, by omega, ext_ex (by (repeat (first | with_reducible exact Bel.refl _ | apply Bel.ext | apply Bel.alloc | apply Bel.drew | exact Bel.refl _ | refine Bel.set ?_ (by first | (simp; done) | (simp [go_sem]; done) | omega) _)) : Bel _ _), Lib.hid ?_⟩
          rw [HV.out, Int.add_assoc]
        case measure => simp [intOf]; omega
      · rw [if_neg h0] at hvv
        have HV := Lib.hid hvv
        clear hvv f5 hb
        go_wp2
        go_roundw
        case rel =>
          refine ⟨k + 1, r, by omega, by go_num, rfl, by omega, by omega, ext_ex (by (repeat (first | with_reducible exact Bel.refl _ | apply Bel.ext | apply Bel.alloc | apply Bel.drew | exact Bel.refl _ | refine Bel.set ?_ (by first | (simp; done) | (simp [go_sem]; done) | omega) _)) : Bel _ _), Lib.hid ?_⟩
          rw [HV.out]; simp
        case measure => simp [intOf]; omega
    · go_wp2
      go_ret2
      refine Ret.mk ?_ (?_ : Bel _ _)
      · rw [hv.out, List.drop_of_length_le (by rw [← HL2.out]; omega), worthFrom]; simp
      · (repeat (first | with_reducible exact Bel.refl _ | apply Bel.ext | apply Bel.alloc | apply Bel.drew | exact Bel.refl _ | refine Bel.set ?_ (by first | (simp; done) | (simp [go_sem]; done) | omega) _))
set_option maxHeartbeats 2000000 in
theorem sWorthOf_c (u : Value) (xss : List (List Int)) (u2 : Value) (ls : List Int) (w : World) (hu : RdN w u xss) (hu2 : Rd celI w u2 ls) :
    Calls Try.prog 27 #[u, u2] w (Ret (.tuple #[.int .i64 (worthI xss ls).1, .int .i64 (worthI xss ls).2]) w) := by
  refine hide_ret fun v H => ?_
  have HS := Lib.hid (fun w hu hu2 => l17Code_c u xss u2 ls w hu hu2)
  have HP := Lib.hid (fun w hu2 => l17Apart_c u2 ls w hu2)
  unfold worthI at H
  by_cases h : assignCode xss ls = 0
  case neg =>
    generalize assignCode xss ls = c at *
    simp only [ne_eq, h, not_false_eq_true, if_true] at H
    have hz : (c != 0) = true := by simp [h]
    have hz2 : (c == 0) = false := by simp [h]
    go_enter Try.func27, Try.ntmps27
    go_wp2_with (first | (go_at_call 49; refine Calls.mono (HS.out _ (hu.bel ?_) (hu2.bel ?_)) ?_; (focus (repeat (first | with_reducible exact Bel.refl _ | apply Bel.ext | apply Bel.alloc | apply Bel.drew | exact Bel.refl _))); (focus (repeat (first | with_reducible exact Bel.refl _ | apply Bel.ext | apply Bel.alloc | apply Bel.drew | exact Bel.refl _))); rintro ee ww ⟨rfl, _, rfl⟩))
    go_ret2
    refine Ret.mk ?_ (?_ : Bel _ _)
    · exact H.out
    · (repeat (first | with_reducible exact Bel.refl _ | apply Bel.ext | apply Bel.alloc | apply Bel.drew | exact Bel.refl _ | refine Bel.set ?_ (by first | (simp; done) | (simp [go_sem]; done) | omega) _))
  have HW := Lib.hid (fun w hu hu2 => l17Worth_c u xss u2 ls h w hu hu2)
  rw [h] at H HS
  simp only [ne_eq, not_true_eq_false, if_false] at H
  clear h
  generalize worthFrom xss 0 ls = t at *
  rcases hq : apartB ls 0 ls with _ | _
  all_goals
    rw [hq] at H HP
    simp only [Bool.not_false, Bool.not_true, Bool.false_eq_true, if_false, if_true] at H
    clear hq
    go_enter Try.func27, Try.ntmps27
    go_wp2_with (first | (go_at_call 49; refine Calls.mono (HS.out _ (hu.bel ?_) (hu2.bel ?_)) ?_; (focus (repeat (first | with_reducible exact Bel.refl _ | apply Bel.ext | apply Bel.alloc | apply Bel.drew | exact Bel.refl _))); (focus (repeat (first | with_reducible exact Bel.refl _ | apply Bel.ext | apply Bel.alloc | apply Bel.drew | exact Bel.refl _))); rintro ee ww ⟨rfl, _, rfl⟩) | (go_at_call 50; refine Calls.mono (HP.out _ (hu2.bel ?_)) ?_; (focus (repeat (first | with_reducible exact Bel.refl _ | apply Bel.ext | apply Bel.alloc | apply Bel.drew | exact Bel.refl _))); rintro ee ww ⟨rfl, _, rfl⟩) | (go_at_call 53; refine Calls.mono (HW.out _ (hu.bel ?_) (hu2.bel ?_)) ?_; (focus (repeat (first | with_reducible exact Bel.refl _ | apply Bel.ext | apply Bel.alloc | apply Bel.drew | exact Bel.refl _))); (focus (repeat (first | with_reducible exact Bel.refl _ | apply Bel.ext | apply Bel.alloc | apply Bel.drew | exact Bel.refl _))); rintro ee ww ⟨rfl, _, rfl⟩))
    go_ret2
    refine Ret.mk ?_ (?_ : Bel _ _)
    · exact H.out
    · (repeat (first | with_reducible exact Bel.refl _ | apply Bel.ext | apply Bel.alloc | apply Bel.drew | exact Bel.refl _ | refine Bel.set ?_ (by first | (simp; done) | (simp [go_sem]; done) | omega) _))
end Go.Proofs.Ythahkoclkjfkdaa
