/- The texts of times and magnitudes: what both sides return (second part). -/
import Derived.Test.YtdneffnnpjgnbacDoorTTime
namespace Go.Proofs.YtdneffnnpjgnbacDoor
open Go.RowKit

def timeL (t : Nat) : List UInt8 := Lib.itoa ((t / 10000 : Nat) : Int) ++ [46] ++ padL 4 (Lib.itoa ((t % 10000 : Nat) : Int))
theorem timeL_S (t : Nat) : textS (timeL t) = textS (Lib.itoa ((t / 10000 : Nat) : Int)) ++ ⟨#[46]⟩ ++ textS (padL 4 (Lib.itoa ((t % 10000 : Nat) : Int))) := by
  unfold timeL
  rw [textS_app, textS_app]; rfl
theorem timeL_le {t : Nat} (h : t ≤ 10000000) : (textS (timeL t)).size ≤ 9 := by
  rw [textS_size]
  unfold timeL
  have h1 := itoa_short (n := t / 10000) (by omega)
  have h2 := padL_len (d := 4) (itoa_short (n := t % 10000) (by omega))
  rw [List.length_append, List.length_append, h2]
  simp only [List.length_cons, List.length_nil]
  omega
set_option maxHeartbeats 2000000 in
theorem TimeText_c (t : Nat) (ht : t ≤ 10000000) (w : World) (hT : TabW w) : Calls Tryd.prog 46 #[.int .i64 (t : Int)] w (Ret (.string (textS (timeL t))) w) := by
  refine hide_ret fun v H => ?_
  have HT := Lib.hid hT
  have HV := Lib.hid (fun w => ValidTime_c (t : Int) w)
  rw [show timeB (t : Int) = true from timeB_iff.2 ⟨by omega, by omega⟩] at HV
  have D1 := Lib.hid (fun x (hx : Bel w x) => Decimal_c ((t / 10000 : Nat) : Int) (by omega) (by omega) x (HT.out.bel hx))
  have D2 := Lib.hid (fun x (hx : Bel w x) => padded_c (t % 10000) 4 (by omega) (by omega) x (HT.out.bel hx))
  rw [show ((t / 10000 : Nat) : Int) = (t : Int) / 10000 by omega] at D1
  rw [show ((t % 10000 : Nat) : Int) = (t : Int) % 10000 by omega] at D2
  rw [timeL_S, show ((t / 10000 : Nat) : Int) = (t : Int) / 10000 by omega, show ((t % 10000 : Nat) : Int) = (t : Int) % 10000 by omega] at H
  have z1 : (textS (Lib.itoa ((t : Int) / 10000))).size ≤ 21 := itoa_size _ (by omega) (by omega)
  have z2 : (textS (padL 4 (Lib.itoa ((t : Int) % 10000)))).size ≤ 4 := by
    rw [textS_size, show (t : Int) % 10000 = ((t % 10000 : Nat) : Int) by omega, padL_len (itoa_short (by omega))]; omega
  generalize textS (Lib.itoa ((t : Int) / 10000)) = A at *
  generalize textS (padL 4 (Lib.itoa ((t : Int) % 10000))) = B at *
  have h0 : (0 : Int) ≤ t := by omega
  clear hT
  go_enter Tryd.func46, Tryd.ntmps46
  go_wp2_with (first | (go_at_call 53; refine Calls.mono (HV.out _) ?_; rintro ee ww ⟨rfl, rfl⟩) | (go_at_call 28; refine Calls.mono (D1.out _ ?_) ?_; (focus (repeat (first | with_reducible exact Bel.refl _ | with_reducible assumption | apply Bel.ext | apply Bel.alloc | apply Bel.drew | exact Bel.refl _))); rintro ee ww ⟨rfl, _, rfl⟩) | (go_at_call 66; refine Calls.mono (D2.out _ ?_) ?_; (focus (repeat (first | with_reducible exact Bel.refl _ | with_reducible assumption | apply Bel.ext | apply Bel.alloc | apply Bel.drew | exact Bel.refl _))); rintro ee ww ⟨rfl, _, rfl⟩))
  go_ret
  exact Ret.mk H.out (by (repeat (first | with_reducible exact Bel.refl _ | with_reducible assumption | apply Bel.ext | apply Bel.alloc | apply Bel.drew | exact Bel.refl _ | refine Bel.set ?_ (by first | (simp; done) | (simp [go_sem]; done) | omega) _)) : Bel _ _)
set_option maxHeartbeats 2000000 in
theorem sTimeText_c (t : Nat) (ht : t ≤ 10000000) (w : World) : Calls Tryd.prog 41 #[.int .i64 (t : Int)] w (Ret (.string (textS (timeL t))) w) := by
  refine hide_ret fun v H => ?_
  have HV := Lib.hid (fun w => l03Time_c (t : Int) w)
  rw [show timeB (t : Int) = true from timeB_iff.2 ⟨by omega, by omega⟩] at HV
  have D1 := Lib.hid (fun x => l01Dec_c ((t / 10000 : Nat) : Int) (by omega) (by omega) x)
  have D2 := Lib.hid (fun x => l03Four_c (t % 10000) (by omega) x)
  rw [show ((t / 10000 : Nat) : Int) = (t : Int) / 10000 by omega] at D1
  rw [show ((t % 10000 : Nat) : Int) = (t : Int) % 10000 by omega] at D2
  rw [timeL_S, show ((t / 10000 : Nat) : Int) = (t : Int) / 10000 by omega, show ((t % 10000 : Nat) : Int) = (t : Int) % 10000 by omega] at H
  have z1 : (textS (Lib.itoa ((t : Int) / 10000))).size ≤ 21 := itoa_size _ (by omega) (by omega)
  have z2 : (textS (padL 4 (Lib.itoa ((t : Int) % 10000)))).size ≤ 4 := by
    rw [textS_size, show (t : Int) % 10000 = ((t % 10000 : Nat) : Int) by omega, padL_len (itoa_short (by omega))]; omega
  generalize textS (Lib.itoa ((t : Int) / 10000)) = A at *
  generalize textS (padL 4 (Lib.itoa ((t : Int) % 10000))) = B at *
  have h0 : (0 : Int) ≤ t := by omega
  go_enter Tryd.func41, Tryd.ntmps41
  go_wp2_with (first | (go_at_call 52; refine Calls.mono (HV.out _) ?_; rintro ee ww ⟨rfl, rfl⟩) | (go_at_call 26; refine Calls.mono (D1.out _) ?_; rintro ee ww ⟨rfl, _, rfl⟩) | (go_at_call 62; refine Calls.mono (D2.out _) ?_; rintro ee ww ⟨rfl, _, rfl⟩))
  go_ret
  exact Ret.mk H.out (by (repeat (first | with_reducible exact Bel.refl _ | with_reducible assumption | apply Bel.ext | apply Bel.alloc | apply Bel.drew | exact Bel.refl _ | refine Bel.set ?_ (by first | (simp; done) | (simp [go_sem]; done) | omega) _)) : Bel _ _)
def magL (m : Int) : List UInt8 := (if m < 0 then [45] else []) ++ Lib.itoa ((m.natAbs / 1000 : Nat) : Int) ++ [46] ++ padL 3 (Lib.itoa ((m.natAbs % 1000 : Nat) : Int))
theorem magL_S (m : Int) : textS (magL m) = textS (if m < 0 then [45] else []) ++ textS (Lib.itoa ((m.natAbs / 1000 : Nat) : Int)) ++ ⟨#[46]⟩ ++ textS (padL 3 (Lib.itoa ((m.natAbs % 1000 : Nat) : Int))) := by
  unfold magL
  rw [textS_app, textS_app, textS_app]; rfl
theorem magL_le {m : Int} (h0 : -2000 ≤ m) (h1 : m ≤ 20000) : (textS (magL m)).size ≤ 10 := by
  rw [textS_size]
  unfold magL
  have h1 := itoa_short (n := m.natAbs / 1000) (by omega)
  have h2 := padL_len (d := 3) (itoa_three (n := m.natAbs % 1000) (by omega))
  rw [List.length_append, List.length_append, List.length_append, h2]
  have h3 : (if m < 0 then ([45] : List UInt8) else []).length ≤ 1 := by split <;> simp
  simp only [List.length_cons, List.length_nil]
  omega
set_option maxHeartbeats 2000000 in
theorem MagText_c (m : Int) (h0 : -2000 ≤ m) (h1 : m ≤ 20000) (w : World) (hT : TabW w) : Calls Tryd.prog 47 #[.int .i64 m] w (Ret (.string (textS (magL m))) w) := by
  refine hide_ret fun v H => ?_
  have HT := Lib.hid hT
  have HV := Lib.hid (fun w => ValidMag_c m w)
  rw [show magB m = true from magB_iff.2 ⟨h0, h1⟩] at HV
  have HA := Lib.hid (fun w => abs_c m (by omega) w)
  rw [show absI m = (m.natAbs : Int) by unfold absI; split <;> omega] at HA
  rw [magL_S] at H
  have hsg : (0 ≤ m ∧ (if m < 0 then ([45] : List UInt8) else []) = []) ∨ (m < 0 ∧ (if m < 0 then ([45] : List UInt8) else []) = [45]) := by
    by_cases h : m < 0
    · exact .inr ⟨h, if_pos h⟩
    · exact .inl ⟨by omega, if_neg h⟩
  obtain ⟨a, ha⟩ : ∃ a, m.natAbs = a := ⟨_, rfl⟩
  have ha2 : a ≤ 20000 := by omega
  rw [ha] at HA H
  have D1 := Lib.hid (fun x (hx : Bel w x) => Decimal_c ((a / 1000 : Nat) : Int) (by omega) (by omega) x (HT.out.bel hx))
  have D2 := Lib.hid (fun x (hx : Bel w x) => padded_c (a % 1000) 3 (by omega) (by omega) x (HT.out.bel hx))
  rw [show ((a / 1000 : Nat) : Int) = (a : Int) / 1000 by omega] at D1 H
  rw [show ((a % 1000 : Nat) : Int) = (a : Int) % 1000 by omega] at D2 H
  have z1 : (textS (Lib.itoa ((a : Int) / 1000))).size ≤ 21 := itoa_size _ (by omega) (by omega)
  have z2 : (textS (padL 3 (Lib.itoa ((a : Int) % 1000)))).size ≤ 4 := by
    rw [textS_size, show (a : Int) % 1000 = ((a % 1000 : Nat) : Int) by omega, padL_len (itoa_three (by omega))]; omega
  generalize textS (Lib.itoa ((a : Int) / 1000)) = A at *
  generalize textS (padL 3 (Lib.itoa ((a : Int) % 1000))) = B at *
  clear hT ha
  have ha0 : (0 : Int) ≤ a := by omega
  rcases hsg with ⟨hm, e⟩ | ⟨hm, e⟩
  · rw [e] at H
    have H2 := Lib.hid (H.out.symm.trans (show _ = Value.string (⟨#[]⟩ ++ A ++ ⟨#[46]⟩ ++ B) from rfl))
    have hm2 : ¬ m < 0 := by omega
    clear H e
    go_enter Tryd.func47, Tryd.ntmps47
    go_wp2_with (first | (go_at_call 64; refine Calls.mono (HV.out _) ?_; rintro ee ww ⟨rfl, rfl⟩) | (go_at_call 67; refine Calls.mono (HA.out _) ?_; rintro ee ww ⟨rfl, rfl⟩) | (go_at_call 28; refine Calls.mono (D1.out _ ?_) ?_; (focus (repeat (first | with_reducible exact Bel.refl _ | with_reducible assumption | apply Bel.ext | apply Bel.alloc | apply Bel.drew | exact Bel.refl _))); rintro ee ww ⟨rfl, _, rfl⟩) | (go_at_call 66; refine Calls.mono (D2.out _ ?_) ?_; (focus (repeat (first | with_reducible exact Bel.refl _ | with_reducible assumption | apply Bel.ext | apply Bel.alloc | apply Bel.drew | exact Bel.refl _))); rintro ee ww ⟨rfl, _, rfl⟩))
    go_ret
    first | exact Ret.mk H2.out.symm (by (repeat (first | with_reducible exact Bel.refl _ | with_reducible assumption | apply Bel.ext | apply Bel.alloc | apply Bel.drew | exact Bel.refl _ | refine Bel.set ?_ (by first | (simp; done) | (simp [go_sem]; done) | omega) _)) : Bel _ _) | (refine Ret.mk (Eq.trans ?_ H2.out.symm) (by (repeat (first | with_reducible exact Bel.refl _ | with_reducible assumption | apply Bel.ext | apply Bel.alloc | apply Bel.drew | exact Bel.refl _ | refine Bel.set ?_ (by first | (simp; done) | (simp [go_sem]; done) | omega) _)) : Bel _ _); simp)
  · rw [e] at H
    have H2 := Lib.hid (H.out.symm.trans (show _ = Value.string (⟨#[45]⟩ ++ A ++ ⟨#[46]⟩ ++ B) from rfl))
    clear H e
    go_enter Tryd.func47, Tryd.ntmps47
    go_wp2_with (first | (go_at_call 64; refine Calls.mono (HV.out _) ?_; rintro ee ww ⟨rfl, rfl⟩) | (go_at_call 67; refine Calls.mono (HA.out _) ?_; rintro ee ww ⟨rfl, rfl⟩) | (go_at_call 28; refine Calls.mono (D1.out _ ?_) ?_; (focus (repeat (first | with_reducible exact Bel.refl _ | with_reducible assumption | apply Bel.ext | apply Bel.alloc | apply Bel.drew | exact Bel.refl _))); rintro ee ww ⟨rfl, _, rfl⟩) | (go_at_call 66; refine Calls.mono (D2.out _ ?_) ?_; (focus (repeat (first | with_reducible exact Bel.refl _ | with_reducible assumption | apply Bel.ext | apply Bel.alloc | apply Bel.drew | exact Bel.refl _))); rintro ee ww ⟨rfl, _, rfl⟩))
    go_ret
    exact Ret.mk H2.out.symm (by (repeat (first | with_reducible exact Bel.refl _ | with_reducible assumption | apply Bel.ext | apply Bel.alloc | apply Bel.drew | exact Bel.refl _ | refine Bel.set ?_ (by first | (simp; done) | (simp [go_sem]; done) | omega) _)) : Bel _ _)
set_option maxHeartbeats 2000000 in
theorem l02Text_c (m : Int) (h0 : -2000 ≤ m) (h1 : m ≤ 20000) (w : World) : Calls Tryd.prog 42 #[.int .i64 m] w (Ret (.string (textS (magL m))) w) := by
  refine hide_ret fun v H => ?_
  rw [magL_S] at H
  have hsg : (0 ≤ m ∧ (if m < 0 then ([45] : List UInt8) else []) = []) ∨ (m < 0 ∧ (if m < 0 then ([45] : List UInt8) else []) = [45]) := by
    by_cases h : m < 0
    · exact .inr ⟨h, if_pos h⟩
    · exact .inl ⟨by omega, if_neg h⟩
  obtain ⟨a, ha⟩ : ∃ a, m.natAbs = a := ⟨_, rfl⟩
  have ha2 : a ≤ 20000 := by omega
  rw [ha] at H
  have D1 := Lib.hid (fun x => l01Dec_c ((a / 1000 : Nat) : Int) (by omega) (by omega) x)
  have D2 := Lib.hid (fun x => l02Three_c (a % 1000) (by omega) x)
  rw [show ((a / 1000 : Nat) : Int) = (a : Int) / 1000 by omega] at D1 H
  rw [show ((a % 1000 : Nat) : Int) = (a : Int) % 1000 by omega] at D2 H
  have z1 : (textS (Lib.itoa ((a : Int) / 1000))).size ≤ 21 := itoa_size _ (by omega) (by omega)
  have z2 : (textS (padL 3 (Lib.itoa ((a : Int) % 1000)))).size ≤ 4 := by
    rw [textS_size, show (a : Int) % 1000 = ((a % 1000 : Nat) : Int) by omega, padL_len (itoa_three (by omega))]; omega
  generalize textS (Lib.itoa ((a : Int) / 1000)) = A at *
  generalize textS (padL 3 (Lib.itoa ((a : Int) % 1000))) = B at *
  have ha0 : (0 : Int) ≤ a := by omega
  rcases hsg with ⟨hm, e⟩ | ⟨hm, e⟩
  · rw [e] at H
    obtain rfl : m = (a : Int) := by omega
    have H2 := Lib.hid (H.out.symm.trans (show _ = Value.string (⟨#[]⟩ ++ A ++ ⟨#[46]⟩ ++ B) from rfl))
    have hm2 : ¬ (a : Int) < 0 := by omega
    clear H e ha
    go_enter Tryd.func42, Tryd.ntmps42
    go_wp2_with (first | (go_at_call 26; refine Calls.mono (D1.out _) ?_; rintro ee ww ⟨rfl, _, rfl⟩) | (go_at_call 63; refine Calls.mono (D2.out _) ?_; rintro ee ww ⟨rfl, _, rfl⟩))
    go_ret
    first | exact Ret.mk H2.out.symm (by (repeat (first | with_reducible exact Bel.refl _ | with_reducible assumption | apply Bel.ext | apply Bel.alloc | apply Bel.drew | exact Bel.refl _ | refine Bel.set ?_ (by first | (simp; done) | (simp [go_sem]; done) | omega) _)) : Bel _ _) | (refine Ret.mk (Eq.trans ?_ H2.out.symm) (by (repeat (first | with_reducible exact Bel.refl _ | with_reducible assumption | apply Bel.ext | apply Bel.alloc | apply Bel.drew | exact Bel.refl _ | refine Bel.set ?_ (by first | (simp; done) | (simp [go_sem]; done) | omega) _)) : Bel _ _); simp)
  · rw [e] at H
    obtain rfl : m = -(a : Int) := by omega
    have H2 := Lib.hid (H.out.symm.trans (show _ = Value.string (⟨#[45]⟩ ++ A ++ ⟨#[46]⟩ ++ B) from rfl))
    clear H e ha
    go_enter Tryd.func42, Tryd.ntmps42
    go_wp2_with (first | (go_at_call 26; refine Calls.mono (D1.out _) ?_; rintro ee ww ⟨rfl, _, rfl⟩) | (go_at_call 63; refine Calls.mono (D2.out _) ?_; rintro ee ww ⟨rfl, _, rfl⟩))
    go_ret
    exact Ret.mk H2.out.symm (by (repeat (first | with_reducible exact Bel.refl _ | with_reducible assumption | apply Bel.ext | apply Bel.alloc | apply Bel.drew | exact Bel.refl _ | refine Bel.set ?_ (by first | (simp; done) | (simp [go_sem]; done) | omega) _)) : Bel _ _)
end Go.Proofs.YtdneffnnpjgnbacDoor
