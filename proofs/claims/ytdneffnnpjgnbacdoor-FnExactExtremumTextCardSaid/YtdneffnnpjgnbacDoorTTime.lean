/- The texts of times and magnitudes: what both sides return. -/
import Derived.Test.YtdneffnnpjgnbacDoorWText
namespace Go.Proofs.YtdneffnnpjgnbacDoor
open Go.RowKit

/-- with noughts ahead, up to d signs -/
def padL (d : Nat) (l : List UInt8) : List UInt8 := List.replicate (d - l.length) 48 ++ l
theorem padL_step {d : Nat} {l : List UInt8} (h : l.length < d) : padL d (48 :: l) = padL d l := by
  unfold padL
  rw [List.length_cons, show d - l.length = (d - (l.length + 1)) + 1 by omega, List.replicate_succ']
  simp
theorem padL_done {d : Nat} {l : List UInt8} (h : d ≤ l.length) : padL d l = l := by
  unfold padL
  rw [show d - l.length = 0 by omega]; rfl
theorem padL_len {d : Nat} {l : List UInt8} (h : l.length ≤ d) : (padL d l).length = d := by
  unfold padL
  rw [List.length_append, List.length_replicate]; omega
def bD (d : Nat) : UInt8 := UInt8.ofNat (48 + d)
theorem itoa_dig {d : Nat} (h : d < 10) : Lib.itoa (d : Int) = [bD d] := by rw [Lib.itoa_nonneg, Lib.decDigits_one h]; rfl
theorem dec_big {u : Nat} (h : ¬ u < 10) : Lib.decDigits u = Lib.decDigits (u / 10) ++ [bD (u % 10)] := by rw [Lib.decDigits, dif_neg h]; rfl
theorem pad3 {n : Nat} (h : n < 1000) : padL 3 (Lib.itoa (n : Int)) = [bD (n / 100)] ++ [bD (n / 10 % 10)] ++ [bD (n % 10)] := by
  rw [Lib.itoa_nonneg]
  by_cases h1 : n < 10
  · rw [Lib.decDigits_one h1, show n / 100 = 0 by omega, show n / 10 % 10 = 0 by omega, show n % 10 = n by omega]; rfl
  · rw [dec_big h1]
    by_cases h2 : n / 10 < 10
    · rw [Lib.decDigits_one h2, show n / 100 = 0 by omega, show n / 10 % 10 = n / 10 by omega]; rfl
    · rw [dec_big h2, Lib.decDigits_one (by omega), show n / 10 / 10 = n / 100 by omega]; rfl
theorem pad4 {n : Nat} (h : n < 10000) : padL 4 (Lib.itoa (n : Int)) = [bD (n / 1000)] ++ [bD (n / 100 % 10)] ++ ([bD (n / 10 % 10)] ++ [bD (n % 10)]) := by
  rw [Lib.itoa_nonneg]
  by_cases h1 : n < 10
  · rw [Lib.decDigits_one h1, show n / 1000 = 0 by omega, show n / 100 % 10 = 0 by omega, show n / 10 % 10 = 0 by omega, show n % 10 = n by omega]; rfl
  · rw [dec_big h1]
    by_cases h2 : n / 10 < 10
    · rw [Lib.decDigits_one h2, show n / 1000 = 0 by omega, show n / 100 % 10 = 0 by omega, show n / 10 % 10 = n / 10 by omega]; rfl
    · rw [dec_big h2]
      by_cases h3 : n / 10 / 10 < 10
      · rw [Lib.decDigits_one h3, show n / 1000 = 0 by omega, show n / 100 % 10 = n / 10 / 10 by omega]; rfl
      · rw [dec_big h3, Lib.decDigits_one (by omega), show n / 10 / 10 / 10 = n / 1000 by omega, show n / 10 / 10 % 10 = n / 100 % 10 by omega]; rfl
theorem itoa_short {n : Nat} (h : n < 10000) : (Lib.itoa (n : Int)).length ≤ 4 := by
  rw [Lib.itoa_nonneg, Lib.decDigits_length]
  by_cases h1 : n < 10
  · rw [Lib.nDigits_small h1]; omega
  · rw [Lib.nDigits_big h1]
    by_cases h2 : n / 10 < 10
    · rw [Lib.nDigits_small h2]; omega
    · rw [Lib.nDigits_big h2]
      by_cases h3 : n / 10 / 10 < 10
      · rw [Lib.nDigits_small h3]; omega
      · rw [Lib.nDigits_big h3, Lib.nDigits_small (by omega)]; omega
theorem itoa_three {n : Nat} (h : n < 1000) : (Lib.itoa (n : Int)).length ≤ 3 := by
  have := congrArg List.length (pad3 h)
  unfold padL at this
  simp at this
  omega
def strLen : Value → Nat
  | .string s => s.size
  | _ => 0
set_option maxHeartbeats 2000000 in
theorem padded_c (n d : Nat) (hn : n < 10000) (hd : d ≤ 4) (w : World) (ht : TabW w) :
    Calls Tryd.prog 66 #[.int .i64 (n : Int), .int .i64 (d : Int)] w (Ret (.string (textS (padL d (Lib.itoa (n : Int))))) w) := by
  refine hide_ret fun v H => ?_
  have HT := Lib.hid ht
  have HD := Lib.hid (fun x (hx : Bel w x) => Decimal_c (n : Int) (by omega) (by omega) x (HT.out.bel hx))
  have h4 := itoa_short hn
  obtain ⟨l0, hl0⟩ : ∃ l0, Lib.itoa (n : Int) = l0 := ⟨_, rfl⟩
  rw [hl0] at H HD h4
  clear ht hl0
  go_enter Tryd.func66, Tryd.ntmps66
  go_wp2_with (first | (go_at_call 28; refine Calls.mono (HD.out _ ?_) ?_; (focus (repeat (first | with_reducible exact Bel.refl _ | with_reducible assumption | apply Bel.ext | apply Bel.alloc | apply Bel.drew | exact Bel.refl _))); rintro ee ww ⟨rfl, _, rfl⟩))
  go_loopw [5] (fun s wr => ∃ l : List UInt8, s = .string (textS l) ∧ l.length ≤ 4 ∧ (∃ g, wr = ext w g) ∧ Hid (padL d l = padL d l0)) (fun s _ => d - strLen s)
  case atStart => exact ⟨l0, rfl, h4, ext_ex (by (repeat (first | with_reducible exact Bel.refl _ | with_reducible assumption | apply Bel.ext | apply Bel.alloc | apply Bel.drew | exact Bel.refl _ | refine Bel.set ?_ (by first | (simp; done) | (simp [go_sem]; done) | omega) _)) : Bel _ _), Lib.hid rfl⟩
  case round =>
    obtain ⟨l, rfl, hl, ⟨g, rfl⟩, hp⟩ := hrel
    have hs := textS_size l
    by_cases hlt : l.length < d
    · have HN := Lib.hid ((padL_step hlt).trans hp.out)
      have HS : Hid (⟨#[48]⟩ ++ textS l = textS (48 :: l)) := Lib.hid (textS_app [48] l).symm
      obtain ⟨S, hS⟩ : ∃ S, textS l = S := ⟨_, rfl⟩
      rw [hS] at HS hs ⊢
      have hs2 : (S.size : Int) < d := by omega
      have hs3 : S.size < d := by omega
      go_wp2
      go_roundw
      case rel => exact ⟨48 :: l, by rw [← HS.out], by rw [List.length_cons]; omega, ext_ex (by (repeat (first | with_reducible exact Bel.refl _ | with_reducible assumption | apply Bel.ext | apply Bel.alloc | apply Bel.drew | exact Bel.refl _ | refine Bel.set ?_ (by first | (simp; done) | (simp [go_sem]; done) | omega) _)) : Bel _ _), HN⟩
      case measure => simp only [strLen]; simp [go_sem]; omega
    · have HV := Lib.hid (H.out.symm.trans (by rw [← hp.out, padL_done (by omega)] : _ = Value.string (textS l)))
      obtain ⟨S, hS⟩ : ∃ S, textS l = S := ⟨_, rfl⟩
      rw [hS] at HV hs ⊢
      have hs2 : ¬ (S.size : Int) < d := by omega
      have hs3 : ¬ S.size < d := by omega
      clear hp H
      go_wp2
      go_ret
      exact Ret.mk HV.out.symm (by (repeat (first | with_reducible exact Bel.refl _ | with_reducible assumption | apply Bel.ext | apply Bel.alloc | apply Bel.drew | exact Bel.refl _ | refine Bel.set ?_ (by first | (simp; done) | (simp [go_sem]; done) | omega) _)) : Bel _ _)
set_option maxHeartbeats 1000000 in
theorem l03Two_c (n : Nat) (hn : n < 100) (w : World) : Calls Tryd.prog 74 #[.int .i64 (n : Int)] w (Ret (.string (textS ([bD (n / 10)] ++ [bD (n % 10)]))) w) := by
  refine hide_ret fun v H => ?_
  have D1 := Lib.hid (fun w => l01Dec_c ((n : Int) / 10) (by omega) (by omega) w)
  have D2 := Lib.hid (fun w => l01Dec_c ((n : Int) % 10) (by omega) (by omega) w)
  rw [show (n : Int) / 10 = ((n / 10 : Nat) : Int) by omega, itoa_dig (by omega), show ((n / 10 : Nat) : Int) = (n : Int) / 10 by omega] at D1
  rw [show (n : Int) % 10 = ((n % 10 : Nat) : Int) by omega, itoa_dig (by omega), show ((n % 10 : Nat) : Int) = (n : Int) % 10 by omega] at D2
  rw [textS_app] at H
  have z1 := textS_size [bD (n / 10)]
  have z2 := textS_size [bD (n % 10)]
  simp only [List.length_cons, List.length_nil] at z1 z2
  generalize textS [bD (n / 10)] = A at *
  generalize textS [bD (n % 10)] = B at *
  have h0 : (0 : Int) ≤ n := by omega
  go_enter Tryd.func74, Tryd.ntmps74
  go_wp2_with (first | (go_at_call 26; refine args_g1 (.int .i64 ((n : Int) / 10)) (by with_reducible rfl) ?_; refine Calls.mono (D1.out _) ?_; rintro ee ww ⟨rfl, _, rfl⟩) | (go_at_call 26; refine args_g1 (.int .i64 ((n : Int) % 10)) (by with_reducible rfl) ?_; refine Calls.mono (D2.out _) ?_; rintro ee ww ⟨rfl, _, rfl⟩))
  go_ret
  exact Ret.mk H.out (by (repeat (first | with_reducible exact Bel.refl _ | with_reducible assumption | apply Bel.ext | apply Bel.alloc | apply Bel.drew | exact Bel.refl _ | refine Bel.set ?_ (by first | (simp; done) | (simp [go_sem]; done) | omega) _)) : Bel _ _)
set_option maxHeartbeats 1000000 in
theorem l03Four_c (n : Nat) (hn : n < 10000) (w : World) : Calls Tryd.prog 62 #[.int .i64 (n : Int)] w (Ret (.string (textS (padL 4 (Lib.itoa (n : Int))))) w) := by
  rw [pad4 hn]
  refine hide_ret fun v H => ?_
  have D1 := Lib.hid (fun w => l03Two_c (n / 100 % 100) (by omega) w)
  have D2 := Lib.hid (fun w => l03Two_c (n % 100) (by omega) w)
  rw [show n / 100 % 100 / 10 = n / 1000 by omega, show n / 100 % 100 % 10 = n / 100 % 10 by omega, show ((n / 100 % 100 : Nat) : Int) = (n : Int) / 100 % 100 by omega] at D1
  rw [show n % 100 / 10 = n / 10 % 10 by omega, show n % 100 % 10 = n % 10 by omega, show ((n % 100 : Nat) : Int) = (n : Int) % 100 by omega] at D2
  rw [textS_app] at H
  have z1 := textS_size ([bD (n / 1000)] ++ [bD (n / 100 % 10)])
  have z2 := textS_size ([bD (n / 10 % 10)] ++ [bD (n % 10)])
  simp only [List.length_append, List.length_cons, List.length_nil] at z1 z2
  generalize textS ([bD (n / 1000)] ++ [bD (n / 100 % 10)]) = A at *
  generalize textS ([bD (n / 10 % 10)] ++ [bD (n % 10)]) = B at *
  have h0 : (0 : Int) ≤ n := by omega
  go_enter Tryd.func62, Tryd.ntmps62
  go_wp2_with (first | (go_at_call 74; refine args_g1 (.int .i64 ((n : Int) / 100 % 100)) (by with_reducible rfl) ?_; refine Calls.mono (D1.out _) ?_; rintro ee ww ⟨rfl, _, rfl⟩) | (go_at_call 74; refine args_g1 (.int .i64 ((n : Int) % 100)) (by with_reducible rfl) ?_; refine Calls.mono (D2.out _) ?_; rintro ee ww ⟨rfl, _, rfl⟩))
  go_ret
  exact Ret.mk H.out (by (repeat (first | with_reducible exact Bel.refl _ | with_reducible assumption | apply Bel.ext | apply Bel.alloc | apply Bel.drew | exact Bel.refl _ | refine Bel.set ?_ (by first | (simp; done) | (simp [go_sem]; done) | omega) _)) : Bel _ _)
set_option maxHeartbeats 1000000 in
theorem l02Three_c (n : Nat) (hn : n < 1000) (w : World) : Calls Tryd.prog 63 #[.int .i64 (n : Int)] w (Ret (.string (textS (padL 3 (Lib.itoa (n : Int))))) w) := by
  rw [pad3 hn]
  refine hide_ret fun v H => ?_
  have D1 := Lib.hid (fun w => l01Dec_c ((n : Int) / 100) (by omega) (by omega) w)
  have D2 := Lib.hid (fun w => l01Dec_c ((n : Int) / 10 % 10) (by omega) (by omega) w)
  have D3 := Lib.hid (fun w => l01Dec_c ((n : Int) % 10) (by omega) (by omega) w)
  rw [show (n : Int) / 100 = ((n / 100 : Nat) : Int) by omega, itoa_dig (by omega), show ((n / 100 : Nat) : Int) = (n : Int) / 100 by omega] at D1
  rw [show (n : Int) / 10 % 10 = ((n / 10 % 10 : Nat) : Int) by omega, itoa_dig (by omega), show ((n / 10 % 10 : Nat) : Int) = (n : Int) / 10 % 10 by omega] at D2
  rw [show (n : Int) % 10 = ((n % 10 : Nat) : Int) by omega, itoa_dig (by omega), show ((n % 10 : Nat) : Int) = (n : Int) % 10 by omega] at D3
  rw [textS_app, textS_app] at H
  have z1 := textS_size [bD (n / 100)]
  have z2 := textS_size [bD (n / 10 % 10)]
  have z3 := textS_size [bD (n % 10)]
  simp only [List.length_cons, List.length_nil] at z1 z2 z3
  generalize textS [bD (n / 100)] = A at *
  generalize textS [bD (n / 10 % 10)] = B at *
  generalize textS [bD (n % 10)] = C at *
  have h0 : (0 : Int) ≤ n := by omega
  go_enter Tryd.func63, Tryd.ntmps63
  go_wp2_with (first | (go_at_call 26; refine args_g1 (.int .i64 ((n : Int) / 100)) (by with_reducible rfl) ?_; refine Calls.mono (D1.out _) ?_; rintro ee ww ⟨rfl, _, rfl⟩) | (go_at_call 26; refine args_g1 (.int .i64 ((n : Int) / 10 % 10)) (by with_reducible rfl) ?_; refine Calls.mono (D2.out _) ?_; rintro ee ww ⟨rfl, _, rfl⟩) | (go_at_call 26; refine args_g1 (.int .i64 ((n : Int) % 10)) (by with_reducible rfl) ?_; refine Calls.mono (D3.out _) ?_; rintro ee ww ⟨rfl, _, rfl⟩))
  go_ret
  exact Ret.mk H.out (by (repeat (first | with_reducible exact Bel.refl _ | with_reducible assumption | apply Bel.ext | apply Bel.alloc | apply Bel.drew | exact Bel.refl _ | refine Bel.set ?_ (by first | (simp; done) | (simp [go_sem]; done) | omega) _)) : Bel _ _)
end Go.Proofs.YtdneffnnpjgnbacDoor
