/- The program's 'ReadDecimal' answers as 'numR' says; its two laws about numerals stand as premises here. -/
import Derived.Test.YtdneffnnpjgnbacDoorRPars
namespace Go.Proofs.YtdneffnnpjgnbacDoor
open Go.RowKit

set_option maxRecDepth 100000 in
set_option maxHeartbeats 4000000 in
theorem ReadDecimalOf_c (s : ByteArray) (hs : s.size ≤ 1048576) (h1 : ∀ n, (1 ≤ (trimL s.data.toList).length ∧ (trimL s.data.toList).length ≤ 18) → Lib.parseIntB 64 s.data.toList = .ok n → numR s.data.toList = endR s.data.toList n)
    (h2 : (1 ≤ (trimL s.data.toList).length ∧ (trimL s.data.toList).length ≤ 18) → (∀ v, Lib.parseIntB 64 s.data.toList ≠ .ok v) → numR s.data.toList = (0, false)) (w : World) (ht : TabW w) (he : ErrV w) :
    Calls Tryd.prog 59 #[.string s] w (Ret (.tuple #[.int .i64 (numR s.data.toList).1, .bool (numR s.data.toList).2]) w) := by
  refine hide_ret fun v H => ?_
  have HT := Lib.hid ht
  have HE := Lib.hid he
  have D1 := Lib.hid (fun w => TrimP_c s.data.toList w)
  rw [← text_of] at D1
  have hz := textS_size (trimL s.data.toList)
  by_cases hl : 1 ≤ (trimL s.data.toList).length ∧ (trimL s.data.toList).length ≤ 18
  · by_cases hok : ∃ n, Lib.parseIntB 64 s.data.toList = .ok n
    · obtain ⟨n, hn⟩ := hok
      rw [h1 n hl hn] at H
      unfold endR at H
      have hb := Lib.parseIntB_bounds hn
      have b1 : -9223372036854775808 ≤ n := by simpa using hb.1
      have b2 : n ≤ 9223372036854775807 := by have := hb.2; simp at this; omega
      have HP : Hid (∀ x, Bel w x → Calls Tryd.prog 73 #[.string s, .int .i64 10, .int .i64 64] x (fun e w' => e = .returned (.tuple #[.int .i64 n, .nilIface]) ∧ ∃ g, w' = ext x g)) := Lib.hid (fun x hx => (ParseInt_c s hs x (HE.out.bel hx)).mono (by
        rintro e w' ⟨m, er, rfl, hg, _, _, hc⟩
        rcases hc with ⟨rfl, hm⟩ | ⟨_, hm⟩
        · rw [hn] at hm; cases hm; exact ⟨rfl, hg⟩
        · exact absurd hn (hm n)))
      have HX := Lib.hid (fun x (hx : Bel w x) => Decimal_c n b1 b2 x (HT.out.bel hx))
      have hq : ((textS (Lib.itoa n)).toList == s.toList) = decide (Lib.itoa n = s.data.toList) := by rw [textS_toList, ByteArray.toList_eq, Bool.eq_iff_iff]; simp
      clear h1 h2 hn hb ht he
      generalize textS (Lib.itoa n) = D at *
      generalize textS (trimL s.data.toList) = T at *
      have t1 : ¬ (T.size : Int) < 1 := by omega
      have t2 : ¬ (18 : Int) < T.size := by omega
      clear hl hz
      by_cases hi : Lib.itoa n = s.data.toList
      · rw [if_pos hi] at H
        rw [decide_eq_true hi] at hq
        clear hi
        go_enter Tryd.func59, Tryd.ntmps59
        go_wp2_with (first | (go_at_call 72; refine Calls.mono (D1.out _) ?_; rintro ee ww ⟨rfl, rfl⟩) | (go_at_call 73; refine Calls.mono (HP.out _ ?_) ?_; (focus (repeat (first | with_reducible exact Bel.refl _ | with_reducible assumption | apply Bel.ext | apply Bel.alloc | apply Bel.drew | exact Bel.refl _))); rintro ee ww ⟨rfl, _, rfl⟩) | (go_at_call 28; refine Calls.mono (HX.out _ ?_) ?_; (focus (repeat (first | with_reducible exact Bel.refl _ | with_reducible assumption | apply Bel.ext | apply Bel.alloc | apply Bel.drew | exact Bel.refl _))); rintro ee ww ⟨rfl, _, rfl⟩))
        go_ret2
        exact Ret.mk H.out (by (repeat (first | with_reducible exact Bel.refl _ | with_reducible assumption | apply Bel.ext | apply Bel.alloc | apply Bel.drew | exact Bel.refl _ | refine Bel.set ?_ (by first | (simp; done) | (simp [go_sem]; done) | omega) _)) : Bel _ _)
      · rw [if_neg hi] at H
        rw [decide_eq_false hi] at hq
        clear hi
        go_enter Tryd.func59, Tryd.ntmps59
        go_wp2_with (first | (go_at_call 72; refine Calls.mono (D1.out _) ?_; rintro ee ww ⟨rfl, rfl⟩) | (go_at_call 73; refine Calls.mono (HP.out _ ?_) ?_; (focus (repeat (first | with_reducible exact Bel.refl _ | with_reducible assumption | apply Bel.ext | apply Bel.alloc | apply Bel.drew | exact Bel.refl _))); rintro ee ww ⟨rfl, _, rfl⟩) | (go_at_call 28; refine Calls.mono (HX.out _ ?_) ?_; (focus (repeat (first | with_reducible exact Bel.refl _ | with_reducible assumption | apply Bel.ext | apply Bel.alloc | apply Bel.drew | exact Bel.refl _))); rintro ee ww ⟨rfl, _, rfl⟩))
        go_ret2
        exact Ret.mk H.out (by (repeat (first | with_reducible exact Bel.refl _ | with_reducible assumption | apply Bel.ext | apply Bel.alloc | apply Bel.drew | exact Bel.refl _ | refine Bel.set ?_ (by first | (simp; done) | (simp [go_sem]; done) | omega) _)) : Bel _ _)
    · have hno : ∀ v, Lib.parseIntB 64 s.data.toList ≠ .ok v := fun v e => hok ⟨v, e⟩
      rw [h2 hl hno] at H
      have HP : Hid (∀ x, Bel w x → Calls Tryd.prog 73 #[.string s, .int .i64 10, .int .i64 64] x (fun e w' => ∃ n t p, e = .returned (.tuple #[.int .i64 n, .iface t p]) ∧ ∃ g, w' = ext x g)) := Lib.hid (fun x hx => (ParseInt_c s hs x (HE.out.bel hx)).mono (by
        rintro e w' ⟨m, er, rfl, hg, _, _, hc⟩
        rcases hc with ⟨rfl, hm⟩ | ⟨⟨t, p, rfl⟩, _⟩
        · exact absurd hm (hno m)
        · exact ⟨m, t, p, rfl, hg⟩))
      clear h1 h2 hok hno ht he
      generalize textS (trimL s.data.toList) = T at *
      have t1 : ¬ (T.size : Int) < 1 := by omega
      have t2 : ¬ (18 : Int) < T.size := by omega
      clear hl hz
      go_enter Tryd.func59, Tryd.ntmps59
      go_wp2_with (first | (go_at_call 72; refine Calls.mono (D1.out _) ?_; rintro ee ww ⟨rfl, rfl⟩) | (go_at_call 73; refine Calls.mono (HP.out _ ?_) ?_; (focus (repeat (first | with_reducible exact Bel.refl _ | with_reducible assumption | apply Bel.ext | apply Bel.alloc | apply Bel.drew | exact Bel.refl _))); rintro ee ww ⟨_, _, _, rfl, _, rfl⟩))
      go_ret2
      exact Ret.mk H.out (by (repeat (first | with_reducible exact Bel.refl _ | with_reducible assumption | apply Bel.ext | apply Bel.alloc | apply Bel.drew | exact Bel.refl _ | refine Bel.set ?_ (by first | (simp; done) | (simp [go_sem]; done) | omega) _)) : Bel _ _)
  · have hn : numR s.data.toList = (0, false) := by unfold numR; rw [if_neg hl]
    rw [hn] at H
    clear h1 h2 ht he hn
    generalize textS (trimL s.data.toList) = T at *
    by_cases t1 : (T.size : Int) < 1
    · clear hl hz
      go_enter Tryd.func59, Tryd.ntmps59
      go_wp2_with (first | (go_at_call 72; refine Calls.mono (D1.out _) ?_; rintro ee ww ⟨rfl, rfl⟩))
      go_ret2
      exact Ret.mk H.out (by (repeat (first | with_reducible exact Bel.refl _ | with_reducible assumption | apply Bel.ext | apply Bel.alloc | apply Bel.drew | exact Bel.refl _ | refine Bel.set ?_ (by first | (simp; done) | (simp [go_sem]; done) | omega) _)) : Bel _ _)
    · have t2 : (18 : Int) < T.size := by omega
      clear hl hz
      go_enter Tryd.func59, Tryd.ntmps59
      go_wp2_with (first | (go_at_call 72; refine Calls.mono (D1.out _) ?_; rintro ee ww ⟨rfl, rfl⟩))
      go_ret2
      exact Ret.mk H.out (by (repeat (first | with_reducible exact Bel.refl _ | with_reducible assumption | apply Bel.ext | apply Bel.alloc | apply Bel.drew | exact Bel.refl _ | refine Bel.set ?_ (by first | (simp; done) | (simp [go_sem]; done) | omega) _)) : Bel _ _)
end Go.Proofs.YtdneffnnpjgnbacDoor
