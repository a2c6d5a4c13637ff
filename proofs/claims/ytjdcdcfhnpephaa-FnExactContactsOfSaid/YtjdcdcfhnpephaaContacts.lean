/- What 'ContactsOf' returns, in the program and in the reference. -/
import Derived.Test.YtjdcdcfhnpephaaModel2
import Derived.Test.YtjdcdcfhnpephaaRowInt
namespace Go.Proofs.Ytjdcdcfhnpephaa
open Go.RowKit

def contactsI (a b c e p k : Int) : List Int × Int :=
  if !modelB a b c || !ephB e p then ([], 1) else if !inB k (-10000) 10000 then ([], 2) else ([e + k * p - b, e + k * p - c, e + k * p + c, e + k * p + b], 0)
theorem contactsI_len (a b c e p k : Int) : (contactsI a b c e p k).1.length ≤ 4 := by unfold contactsI; split <;> (try split) <;> simp
theorem mul_bd {k p : Int} (h1 : -10000 ≤ k) (h2 : k ≤ 10000) (h3 : 1 ≤ p) (h4 : p ≤ 1000000) : -10000000000 ≤ k * p ∧ k * p ≤ 10000000000 := by
  have h5 := Int.mul_le_mul_of_nonneg_right h2 (show 0 ≤ p by omega)
  have h6 := Int.mul_le_mul_of_nonneg_right h1 (show 0 ≤ p by omega)
  omega
set_option maxHeartbeats 1000000 in
theorem ContactsOf_c (a b c e p k : Int) (w : World) :
    Calls Try.prog 21 #[.agg #[.int .i64 a, .int .i64 b, .int .i64 c], .agg #[.int .i64 e, .int .i64 p], .int .i64 k] w (RetRow 2 1 (fun v => .tuple #[v, .int .i64 (contactsI a b c e p k).2]) (contactsI a b c e p k).1.length (celI.row (contactsI a b c e p k).1) w) := by
  generalize hR : RetRow _ _ _ _ _ w = R
  have HR := Lib.hid hR
  clear hR
  rcases hm : modelB a b c with _ | _ <;> rcases he : ephB e p with _ | _ <;> rcases hk : inB k (-10000) 10000 with _ | _ <;> simp only [contactsI, hm, he, hk, Bool.not_true, Bool.not_false, Bool.true_or, Bool.or_true, Bool.false_or, Bool.or_false, Bool.true_and, Bool.and_true, Bool.false_and, Bool.and_false, if_true, if_false, Bool.false_eq_true] at HR
  case true.true.true =>
    obtain ⟨e1, e2, p1, p2⟩ := ephB_iff.1 he
    obtain ⟨m1, m2, m3, m4, m5⟩ := modelB_iff.1 hm
    obtain ⟨k1, k2⟩ := inB_iff.1 hk
    obtain ⟨q1, q2⟩ := mul_bd k1 k2 p1 p2
    go_enter Try.func21, Try.ntmps21
    go_wp2_with (first | (go_at_call 14; refine (ValidModel_c _ _ _ _).mono ?_; rintro e w' ⟨rfl, _, rfl⟩) | (go_at_call 55; refine (ValidEphemeris_c _ _ _).mono ?_; rintro e w' ⟨rfl, _, rfl⟩) | (go_at_call 48; refine (in_c _ _ _ _).mono ?_; rintro e w' ⟨rfl, rfl⟩))
    all_goals (try ((refine region_ext (by kernel_rfl) (by kernel_rfl) ?_; (repeat (go_big_quiet_step (first | (go_at_call 14; exact Calls.in_ret (ValidModel_c _ _ _ _)) | (go_at_call 55; exact Calls.in_ret (ValidEphemeris_c _ _ _)) | (go_at_call 48; exact Calls.in_same (in_c _ _ _ _))))); refine wpQuiet_nil ?_; rintro _ ⟨_, rfl⟩); go_wp2_with (first | (go_at_call 14; refine (ValidModel_c _ _ _ _).mono ?_; rintro e w' ⟨rfl, _, rfl⟩) | (go_at_call 55; refine (ValidEphemeris_c _ _ _).mono ?_; rintro e w' ⟨rfl, _, rfl⟩) | (go_at_call 48; refine (in_c _ _ _ _).mono ?_; rintro e w' ⟨rfl, rfl⟩))))
    rw [← HR.out]
    refine RetRow.mk' rfl (by (repeat (first | exact Bel.refl _ | apply Bel.ext | apply Bel.alloc | apply Bel.drew | refine Bel.set ?_ (by first | (simp; done) | (simp [go_sem]; done) | omega) _)) : Bel _ _) (own_lit _ _ _ 1 [.int .i64 (e + k * p - b), .int .i64 (e + k * p - c), .int .i64 (e + k * p + c), .int .i64 (e + k * p + b)] 4 rfl ?_ (by unfold maxLen; omega))
    exact (by (repeat (first | exact Bel.refl _ | apply Bel.ext | apply Bel.alloc | apply Bel.drew | refine Bel.set ?_ (by first | (simp; done) | (simp [go_sem]; done) | omega) _)) : Bel w _).size
  all_goals
    go_enter Try.func21, Try.ntmps21
    go_wp2_with (first | (go_at_call 14; refine (ValidModel_c _ _ _ _).mono ?_; rintro e w' ⟨rfl, _, rfl⟩) | (go_at_call 55; refine (ValidEphemeris_c _ _ _).mono ?_; rintro e w' ⟨rfl, _, rfl⟩) | (go_at_call 48; refine (in_c _ _ _ _).mono ?_; rintro e w' ⟨rfl, rfl⟩))
    all_goals (try ((refine region_ext (by kernel_rfl) (by kernel_rfl) ?_; (repeat (go_big_quiet_step (first | (go_at_call 14; exact Calls.in_ret (ValidModel_c _ _ _ _)) | (go_at_call 55; exact Calls.in_ret (ValidEphemeris_c _ _ _)) | (go_at_call 48; exact Calls.in_same (in_c _ _ _ _))))); refine wpQuiet_nil ?_; rintro _ ⟨_, rfl⟩); go_wp2_with (first | (go_at_call 14; refine (ValidModel_c _ _ _ _).mono ?_; rintro e w' ⟨rfl, _, rfl⟩) | (go_at_call 55; refine (ValidEphemeris_c _ _ _).mono ?_; rintro e w' ⟨rfl, _, rfl⟩) | (go_at_call 48; refine (in_c _ _ _ _).mono ?_; rintro e w' ⟨rfl, rfl⟩))))
    rw [← HR.out]
    exact RetRow.mk' rfl (by (repeat (first | exact Bel.refl _ | apply Bel.ext | apply Bel.alloc | apply Bel.drew | refine Bel.set ?_ (by first | (simp; done) | (simp [go_sem]; done) | omega) _)) : Bel _ _) (World.ownsRow_nil _ _ _ _)
set_option maxHeartbeats 1000000 in
theorem sContactsOf_c (a b c e p k : Int) (w : World) :
    Calls Try.prog 19 #[.agg #[.int .i64 a, .int .i64 b, .int .i64 c], .agg #[.int .i64 e, .int .i64 p], .int .i64 k] w (RetRow 2 1 (fun v => .tuple #[v, .int .i64 (contactsI a b c e p k).2]) (contactsI a b c e p k).1.length (celI.row (contactsI a b c e p k).1) w) := by
  generalize hR : RetRow _ _ _ _ _ w = R
  have HR := Lib.hid hR
  clear hR
  rcases hm : modelB a b c with _ | _ <;> rcases he : ephB e p with _ | _ <;> rcases hk : inB k (-10000) 10000 with _ | _ <;> simp only [contactsI, hm, he, hk, Bool.not_true, Bool.not_false, Bool.true_or, Bool.or_true, Bool.false_or, Bool.or_false, Bool.true_and, Bool.and_true, Bool.false_and, Bool.and_false, if_true, if_false, Bool.false_eq_true] at HR
  case true.true.true =>
    obtain ⟨e1, e2, p1, p2⟩ := ephB_iff.1 he
    obtain ⟨m1, m2, m3, m4, m5⟩ := modelB_iff.1 hm
    obtain ⟨k1, k2⟩ := inB_iff.1 hk
    obtain ⟨q1, q2⟩ := mul_bd k1 k2 p1 p2
    go_enter Try.func19, Try.ntmps19
    go_wp2_with (first | (go_at_call 47; refine (l14Ok_c _ _ _ _).mono ?_; rintro e w' ⟨rfl, _, rfl⟩) | (go_at_call 54; refine (l09Ok_c _ _ _).mono ?_; rintro e w' ⟨rfl, _, rfl⟩) | (go_at_call 49; refine (l00In_c _ _ _ _).mono ?_; rintro e w' ⟨rfl, rfl⟩))
    all_goals (try ((refine region_ext (by kernel_rfl) (by kernel_rfl) ?_; (repeat (go_big_quiet_step (first | (go_at_call 47; exact Calls.in_ret (l14Ok_c _ _ _ _)) | (go_at_call 54; exact Calls.in_ret (l09Ok_c _ _ _)) | (go_at_call 49; exact Calls.in_same (l00In_c _ _ _ _))))); refine wpQuiet_nil ?_; rintro _ ⟨_, rfl⟩); go_wp2_with (first | (go_at_call 47; refine (l14Ok_c _ _ _ _).mono ?_; rintro e w' ⟨rfl, _, rfl⟩) | (go_at_call 54; refine (l09Ok_c _ _ _).mono ?_; rintro e w' ⟨rfl, _, rfl⟩) | (go_at_call 49; refine (l00In_c _ _ _ _).mono ?_; rintro e w' ⟨rfl, rfl⟩))))
    rw [← HR.out]
    refine RetRow.mk' rfl (by (repeat (first | exact Bel.refl _ | apply Bel.ext | apply Bel.alloc | apply Bel.drew | refine Bel.set ?_ (by first | (simp; done) | (simp [go_sem]; done) | omega) _)) : Bel _ _) (own_lit _ _ _ 1 [.int .i64 (e + k * p - b), .int .i64 (e + k * p - c), .int .i64 (e + k * p + c), .int .i64 (e + k * p + b)] 4 rfl ?_ (by unfold maxLen; omega))
    exact (by (repeat (first | exact Bel.refl _ | apply Bel.ext | apply Bel.alloc | apply Bel.drew | refine Bel.set ?_ (by first | (simp; done) | (simp [go_sem]; done) | omega) _)) : Bel w _).size
  all_goals
    go_enter Try.func19, Try.ntmps19
    go_wp2_with (first | (go_at_call 47; refine (l14Ok_c _ _ _ _).mono ?_; rintro e w' ⟨rfl, _, rfl⟩) | (go_at_call 54; refine (l09Ok_c _ _ _).mono ?_; rintro e w' ⟨rfl, _, rfl⟩) | (go_at_call 49; refine (l00In_c _ _ _ _).mono ?_; rintro e w' ⟨rfl, rfl⟩))
    all_goals (try ((refine region_ext (by kernel_rfl) (by kernel_rfl) ?_; (repeat (go_big_quiet_step (first | (go_at_call 47; exact Calls.in_ret (l14Ok_c _ _ _ _)) | (go_at_call 54; exact Calls.in_ret (l09Ok_c _ _ _)) | (go_at_call 49; exact Calls.in_same (l00In_c _ _ _ _))))); refine wpQuiet_nil ?_; rintro _ ⟨_, rfl⟩); go_wp2_with (first | (go_at_call 47; refine (l14Ok_c _ _ _ _).mono ?_; rintro e w' ⟨rfl, _, rfl⟩) | (go_at_call 54; refine (l09Ok_c _ _ _).mono ?_; rintro e w' ⟨rfl, _, rfl⟩) | (go_at_call 49; refine (l00In_c _ _ _ _).mono ?_; rintro e w' ⟨rfl, rfl⟩))))
    rw [← HR.out]
    exact RetRow.mk' rfl (by (repeat (first | exact Bel.refl _ | apply Bel.ext | apply Bel.alloc | apply Bel.drew | refine Bel.set ?_ (by first | (simp; done) | (simp [go_sem]; done) | omega) _)) : Bel _ _) (World.ownsRow_nil _ _ _ _)
end Go.Proofs.Ytjdcdcfhnpephaa
