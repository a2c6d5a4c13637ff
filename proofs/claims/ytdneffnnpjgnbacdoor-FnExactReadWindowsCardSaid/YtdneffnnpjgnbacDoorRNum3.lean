/- Decimal numerals read back: the walk of the reference's 'l01Number'. -/
import Derived.Test.YtdneffnnpjgnbacDoorRNum2
namespace Go.Proofs.YtdneffnnpjgnbacDoor
open Go.RowKit

theorem sdrop (s : ByteArray) (k : Nat) (h : k < s.size) : s.data.toList.drop k = s[k] :: s.data.toList.drop (k + 1) := by
  rw [List.drop_eq_getElem_cons (by simpa using h)]; rfl
theorem pow17 {a : Int} {k : Nat} (h : a < ((10 ^ k : Nat) : Int)) (hk : k ≤ 17) : a < 100000000000000000 := by
  have := Nat.pow_le_pow_right (n := 10) (by omega) hk
  have e : (10 : Nat) ^ 17 = 100000000000000000 := by decide
  rw [e] at this
  generalize 10 ^ k = q at *
  omega
theorem spos {s : ByteArray} (h : 0 < s.size) : s.toList.isEmpty = false := by
  cases e : s.toList with
  | cons a l => rfl
  | nil => rw [ByteArray.toList_eq] at e; have := congrArg List.length e; rw [Array.length_toList, List.length_nil] at this; exact absurd (show s.size = 0 from this) (by omega)
theorem dash_head {s : ByteArray} (h : 0 < s.size) : dashB s.data.toList = ((s[0].toNat : Int) == 45) := by
  have := sdrop s 0 h
  rw [List.drop_zero] at this
  unfold dashB
  rw [this, Bool.eq_iff_iff]
  simp
  constructor
  · intro e; rw [e]; rfl
  · intro e; exact UInt8.toNat_inj.1 (by simpa using (by omega : s[0].toNat = 45))
theorem trim_no {l : List UInt8} (h : dashB l = false) : trimL l = l := by unfold trimL; rw [h]; rfl
set_option maxRecDepth 100000 in
set_option maxHeartbeats 4000000 in
theorem l01NumberP_c (s : ByteArray) (hs : s.size ≤ 1048576) (hp : 0 < s.size) (hd : dashB s.data.toList = false) (w : World) :
    Calls Tryd.prog 36 #[.string s] w (Ret (.tuple #[.int .i64 (numR s.data.toList).1, .bool (numR s.data.toList).2]) w) := by
  refine hide_ret fun v H => ?_
  have hem := spos hp
  have h45 := (dash_head hp).symm.trans hd
  have hln : s.data.toList.length = s.size := by simp
  unfold numR at H
  rw [hd, trim_no hd, hln] at H
  clear hd hln
  by_cases hz : s.size ≤ 18
  · rw [if_pos ⟨hp, hz⟩] at H
    have hz2 : ¬ (18 : Int) < s.size := by omega
    have hz3 : ¬ (s.size : Int) < 1 := by omega
    go_enter Tryd.func36, Tryd.ntmps36
    go_wp2
    go_loopw [5, 6] (fun n i wr => ∃ (k : Nat) (a : Int), k ≤ s.size ∧ i = .int .i64 k ∧ n = .int .i64 a ∧ 0 ≤ a ∧ Hid (a < ((10 ^ k : Nat) : Int)) ∧ (∃ g, wr = ext w g) ∧ Hid (valR (s.data.toList.drop k) a = valR s.data.toList 0)) (fun _ i _ => s.size - (intOf i).toNat)
    case atStart => exact ⟨0, 0, Nat.zero_le _, rfl, rfl, by omega, Lib.hid (by decide), ext_ex (by (repeat (first | with_reducible exact Bel.refl _ | with_reducible assumption | apply Bel.ext | apply Bel.alloc | apply Bel.drew | exact Bel.refl _ | refine Bel.set ?_ (by first | (simp; done) | (simp [go_sem]; done) | omega) _)) : Bel _ _), Lib.hid rfl⟩
    case round =>
      obtain ⟨k, a, hk, rfl, rfl, ha0, hak, ⟨g, rfl⟩, hv⟩ := hrel
      by_cases hlt : k < s.size
      · have hD := hv.out
        rw [sdrop s k hlt] at hD
        have ha17 := pow17 hak.out (by omega)
        have HS := Lib.hid (fun w => digI_c (s[k].toNat : Int) w)
        rcases h1 : digI (s[k].toNat : Int) with _ | _
        · rw [valR_no h1] at hD
          rw [h1] at HS
          have H2 := Lib.hid (H.out.symm.trans (by rw [← hD]; rfl : _ = Value.tuple #[.int .i64 0, .bool false]))
          clear hD hv h1 H
          go_wp2_with (first | (go_at_call 57; refine Calls.mono (HS.out _) ?_; rintro ee ww ⟨rfl, rfl⟩))
          go_ret2
          exact Ret.mk H2.out.symm (by (repeat (first | with_reducible exact Bel.refl _ | with_reducible assumption | apply Bel.ext | apply Bel.alloc | apply Bel.drew | exact Bel.refl _ | refine Bel.set ?_ (by first | (simp; done) | (simp [go_sem]; done) | omega) _)) : Bel _ _)
        · rw [valR_yes h1] at hD
          rw [h1] at HS
          have HD := Lib.hid hD
          obtain ⟨c1, c2⟩ := digI_yes h1
          have HP := Lib.hid (pow_next hak.out c2)
          clear hD hv h1 hak
          go_wp2_with (first | (go_at_call 57; refine Calls.mono (HS.out _) ?_; rintro ee ww ⟨rfl, rfl⟩))
          go_roundw
          case rel => exact ⟨k + 1, _, by omega, by go_num, rfl, by omega, HP, ext_ex (by (repeat (first | with_reducible exact Bel.refl _ | with_reducible assumption | apply Bel.ext | apply Bel.alloc | apply Bel.drew | exact Bel.refl _ | refine Bel.set ?_ (by first | (simp; done) | (simp [go_sem]; done) | omega) _)) : Bel _ _), HD⟩
          case measure => simp [intOf]; omega
      · have ha18 := pow_small hak.out (by omega)
        have hD := hv.out
        rw [List.drop_of_length_le (by simp; omega)] at hD
        have H1 := Lib.hid (H.out.symm.trans (by rw [← hD]; rfl : _ = Value.tuple #[.int .i64 (endR s.data.toList a).1, .bool (endR s.data.toList a).2]))
        have HX := Lib.hid (fun w => l01Dec_c a (by omega) (by omega) w)
        have hq : ((textS (Lib.itoa a)).toList == s.toList) = decide (Lib.itoa a = s.data.toList) := by rw [textS_toList, ByteArray.toList_eq, Bool.eq_iff_iff]; simp
        unfold endR at H1
        clear hD hv hak H
        generalize textS (Lib.itoa a) = D at *
        by_cases he : Lib.itoa a = s.data.toList
        · rw [if_pos he] at H1
          rw [decide_eq_true he] at hq
          clear he
          go_wp2_with (first | (go_at_call 26; refine Calls.mono (HX.out _) ?_; rintro ee ww ⟨rfl, _, rfl⟩))
          go_ret2
          exact Ret.mk H1.out.symm (by (repeat (first | with_reducible exact Bel.refl _ | with_reducible assumption | apply Bel.ext | apply Bel.alloc | apply Bel.drew | exact Bel.refl _ | refine Bel.set ?_ (by first | (simp; done) | (simp [go_sem]; done) | omega) _)) : Bel _ _)
        · rw [if_neg he] at H1
          rw [decide_eq_false he] at hq
          clear he
          go_wp2_with (first | (go_at_call 26; refine Calls.mono (HX.out _) ?_; rintro ee ww ⟨rfl, _, rfl⟩))
          go_ret2
          exact Ret.mk H1.out.symm (by (repeat (first | with_reducible exact Bel.refl _ | with_reducible assumption | apply Bel.ext | apply Bel.alloc | apply Bel.drew | exact Bel.refl _ | refine Bel.set ?_ (by first | (simp; done) | (simp [go_sem]; done) | omega) _)) : Bel _ _)
  · rw [if_neg (by omega)] at H
    have hz2 : (18 : Int) < s.size := by omega
    have hz3 : ¬ (s.size : Int) < 1 := by omega
    go_enter Tryd.func36, Tryd.ntmps36
    go_wp2
    go_ret2
    exact Ret.mk H.out (by (repeat (first | with_reducible exact Bel.refl _ | with_reducible assumption | apply Bel.ext | apply Bel.alloc | apply Bel.drew | exact Bel.refl _ | refine Bel.set ?_ (by first | (simp; done) | (simp [go_sem]; done) | omega) _)) : Bel _ _)
end Go.Proofs.YtdneffnnpjgnbacDoor
