/- Decimal numerals read back: the walk of the reference's 'l01Number' (numerals with a sign, and all). -/
import Derived.Test.YtdneffnnpjgnbacDoorRNum3
namespace Go.Proofs.YtdneffnnpjgnbacDoor
open Go.RowKit

theorem trim_yes {s : ByteArray} (h : dashB s.data.toList = true) : (s.extract 1 s.size).data.toList = trimL s.data.toList := by
  unfold trimL
  rw [h]
  simp [ByteArray.data_extract]
  exact List.take_of_length_le (by simp)
theorem dash_pos {s : ByteArray} (h : dashB s.data.toList = true) : 0 < s.size := by
  rcases Nat.eq_zero_or_pos s.size with e | e
  · have : s.data.toList = [] := List.eq_nil_of_length_eq_zero (by simpa using e)
    rw [this] at h; exact absurd h (by decide)
  · exact e
set_option maxRecDepth 100000 in
set_option maxHeartbeats 4000000 in
theorem l01NumberM_c (s : ByteArray) (hs : s.size ≤ 1048576) (hd : dashB s.data.toList = true) (w : World) :
    Calls Tryd.prog 36 #[.string s] w (Ret (.tuple #[.int .i64 (numR s.data.toList).1, .bool (numR s.data.toList).2]) w) := by
  refine hide_ret fun v H => ?_
  have hp := dash_pos hd
  have hem := spos hp
  have h45 := (dash_head hp).symm.trans hd
  obtain ⟨T, hT⟩ : ∃ T, s.extract 1 s.size = T := ⟨_, rfl⟩
  have hTl := trim_yes hd
  rw [hT] at hTl
  have hts : T.size + 1 = s.size := by
    rw [← hT, ByteArray.size_extract]; omega
  have hln : T.data.toList.length = T.size := by simp
  have hp1 : 1 ≤ s.size := hp
  unfold numR at H
  rw [hd, ← hTl, hln] at H
  clear hd hln hTl
  by_cases hz0 : T.size = 0
  · rw [if_neg (by omega)] at H
    have hz3 : (T.size : Int) < 1 := by omega
    go_enter Tryd.func36, Tryd.ntmps36
    go_wp2
    go_ret2
    exact Ret.mk H.out (by (repeat (first | with_reducible exact Bel.refl _ | with_reducible assumption | apply Bel.ext | apply Bel.alloc | apply Bel.drew | exact Bel.refl _ | refine Bel.set ?_ (by first | (simp; done) | (simp [go_sem]; done) | omega) _)) : Bel _ _)
  by_cases hz : T.size ≤ 18
  · rw [if_pos ⟨(by omega : 1 ≤ T.size), hz⟩] at H
    have hz2 : ¬ (18 : Int) < T.size := by omega
    have hz3 : ¬ (T.size : Int) < 1 := by omega
    go_enter Tryd.func36, Tryd.ntmps36
    go_wp2
    go_loopw [5, 6] (fun n i wr => ∃ (k : Nat) (a : Int), k ≤ T.size ∧ i = .int .i64 k ∧ n = .int .i64 a ∧ 0 ≤ a ∧ Hid (a < ((10 ^ k : Nat) : Int)) ∧ (∃ g, wr = ext w g) ∧ Hid (valR (T.data.toList.drop k) a = valR T.data.toList 0)) (fun _ i _ => T.size - (intOf i).toNat)
    case atStart => exact ⟨0, 0, Nat.zero_le _, rfl, rfl, by omega, Lib.hid (by decide), ext_ex (by (repeat (first | with_reducible exact Bel.refl _ | with_reducible assumption | apply Bel.ext | apply Bel.alloc | apply Bel.drew | exact Bel.refl _ | refine Bel.set ?_ (by first | (simp; done) | (simp [go_sem]; done) | omega) _)) : Bel _ _), Lib.hid rfl⟩
    case round =>
      obtain ⟨k, a, hk, rfl, rfl, ha0, hak, ⟨g, rfl⟩, hv⟩ := hrel
      by_cases hlt : k < T.size
      · have hD := hv.out
        rw [sdrop T k hlt] at hD
        have ha17 := pow17 hak.out (by omega)
        have HS := Lib.hid (fun w => digI_c (T[k].toNat : Int) w)
        rcases h1 : digI (T[k].toNat : Int) with _ | _
        · rw [valR_no h1] at hD
          rw [h1] at HS
          have H2 := Lib.hid (H.out.symm.trans (by rw [← hD]; rfl : _ = Value.tuple #[.int .i64 0, .bool false]))
          clear hD hv h1 H
          go_wp2_with (first | (go_at_call 57; refine Calls.mono (HS.out _) ?_; rintro ee ww ⟨rfl, rfl⟩))
          go_ret2
          exact Ret.mk H2.out.symm (by (repeat (first | with_reducible exact Bel.refl _ | with_reducible assumption | apply Bel.ext | apply Bel.alloc | apply Bel.drew | exact Bel.refl _ | refine Bel.set ?_ (by first | (simp; done) | (simp [go_sem]; done) | omega) _)) : Bel _ _)
        · rw [valR_yes h1] at hD
          rw [h1] at HS
          have HD := Lib.hid hD
          obtain ⟨c1, c2⟩ := digI_yes h1
          have HP := Lib.hid (pow_next hak.out c2)
          clear hD hv h1 hak
          go_wp2_with (first | (go_at_call 57; refine Calls.mono (HS.out _) ?_; rintro ee ww ⟨rfl, rfl⟩))
          go_roundw
          case rel => exact ⟨k + 1, _, by omega, by go_num, rfl, by omega, HP, ext_ex (by (repeat (first | with_reducible exact Bel.refl _ | with_reducible assumption | apply Bel.ext | apply Bel.alloc | apply Bel.drew | exact Bel.refl _ | refine Bel.set ?_ (by first | (simp; done) | (simp [go_sem]; done) | omega) _)) : Bel _ _), HD⟩
          case measure => simp [intOf]; omega
      · have ha18 := pow_small hak.out (by omega)
        have hD := hv.out
        rw [List.drop_of_length_le (by simp; omega)] at hD
        have H1 := Lib.hid (H.out.symm.trans (by rw [← hD]; rfl : _ = Value.tuple #[.int .i64 (endR s.data.toList (-a)).1, .bool (endR s.data.toList (-a)).2]))
        have HX := Lib.hid (fun w => l01Dec_c (-a) (by omega) (by omega) w)
        have hq : ((textS (Lib.itoa (-a))).toList == s.toList) = decide (Lib.itoa (-a) = s.data.toList) := by rw [textS_toList, ByteArray.toList_eq, Bool.eq_iff_iff]; simp
        unfold endR at H1
        clear hD hv hak H
        generalize textS (Lib.itoa (-a)) = D at *
        by_cases he : Lib.itoa (-a) = s.data.toList
        · rw [if_pos he] at H1
          rw [decide_eq_true he] at hq
          clear he
          go_wp2_with (first | (go_at_call 26; refine Calls.mono (HX.out _) ?_; rintro ee ww ⟨rfl, _, rfl⟩))
          go_ret2
          exact Ret.mk H1.out.symm (by (repeat (first | with_reducible exact Bel.refl _ | with_reducible assumption | apply Bel.ext | apply Bel.alloc | apply Bel.drew | exact Bel.refl _ | refine Bel.set ?_ (by first | (simp; done) | (simp [go_sem]; done) | omega) _)) : Bel _ _)
        · rw [if_neg he] at H1
          rw [decide_eq_false he] at hq
          clear he
          go_wp2_with (first | (go_at_call 26; refine Calls.mono (HX.out _) ?_; rintro ee ww ⟨rfl, _, rfl⟩))
          go_ret2
          exact Ret.mk H1.out.symm (by (repeat (first | with_reducible exact Bel.refl _ | with_reducible assumption | apply Bel.ext | apply Bel.alloc | apply Bel.drew | exact Bel.refl _ | refine Bel.set ?_ (by first | (simp; done) | (simp [go_sem]; done) | omega) _)) : Bel _ _)
  · rw [if_neg (by omega)] at H
    have hz2 : (18 : Int) < T.size := by omega
    have hz3 : ¬ (T.size : Int) < 1 := by omega
    go_enter Tryd.func36, Tryd.ntmps36
    go_wp2
    go_ret2
    exact Ret.mk H.out (by (repeat (first | with_reducible exact Bel.refl _ | with_reducible assumption | apply Bel.ext | apply Bel.alloc | apply Bel.drew | exact Bel.refl _ | refine Bel.set ?_ (by first | (simp; done) | (simp [go_sem]; done) | omega) _)) : Bel _ _)
set_option maxRecDepth 100000 in
set_option maxHeartbeats 1000000 in
theorem l01Number_c (s : ByteArray) (hs : s.size ≤ 1048576) (w : World) :
    Calls Tryd.prog 36 #[.string s] w (Ret (.tuple #[.int .i64 (numR s.data.toList).1, .bool (numR s.data.toList).2]) w) := by
  rcases Nat.eq_zero_or_pos s.size with h0 | h0
  · refine hide_ret fun v H => ?_
    have e1 : s.data.toList = [] := List.eq_nil_of_length_eq_zero (by simpa using h0)
    have H' := Lib.hid (H.out.symm.trans (by rw [e1]; rfl : _ = Value.tuple #[.int .i64 0, .bool false]))
    have e2 : s = ByteArray.empty := by
      cases s with | mk d => cases d with | mk l => simp at e1; subst e1; rfl
    subst e2
    clear e1 h0 H
    go_enter Tryd.func36, Tryd.ntmps36
    go_wp2
    go_ret2
    exact Ret.mk H'.out.symm (by (repeat (first | with_reducible exact Bel.refl _ | with_reducible assumption | apply Bel.ext | apply Bel.alloc | apply Bel.drew | exact Bel.refl _ | refine Bel.set ?_ (by first | (simp; done) | (simp [go_sem]; done) | omega) _)) : Bel _ _)
  · rcases hd : dashB s.data.toList with _ | _
    · exact l01NumberP_c s hs h0 hd w
    · exact l01NumberM_c s hs hd w
end Go.Proofs.YtdneffnnpjgnbacDoor
