/- The minimum with the greatest residual: what both sides return. -/
import Derived.Test.YtlnpfggcmjljbaaResid
namespace Go.Proofs.Ytlnpfggcmjljbaa
open Go.RowKit

def worstGo (rs : List Int) (k best : Nat) : List Int → Nat
  | [] => best
  | x :: r => worstGo rs (k + 1) (if absI (rs.getD best 0) < absI x then k else best) r
theorem worstGo_nil {rs : List Int} {k best : Nat} : worstGo rs k best [] = best := rfl
theorem worstGo_pos {rs : List Int} {k best : Nat} {x : Int} {r : List Int} (h : absI (rs.getD best 0) < absI x) : worstGo rs k best (x :: r) = worstGo rs (k + 1) k r := by rw [worstGo, if_pos h]
theorem worstGo_neg {rs : List Int} {k best : Nat} {x : Int} {r : List Int} (h : ¬ absI (rs.getD best 0) < absI x) : worstGo rs k best (x :: r) = worstGo rs (k + 1) best r := by rw [worstGo, if_neg h]
theorem worstGo_start {rs : List Int} (h : 0 < rs.length) : worstGo rs 0 0 rs = worstGo rs 1 0 (rs.drop 1) := by
  obtain ⟨x, r, rfl⟩ : ∃ x r, rs = x :: r := by cases rs with | nil => simp at h | cons x r => exact ⟨x, r, rfl⟩
  rw [worstGo_neg (x := x) (r := r) (by simp)]; rfl
attribute [irreducible] worstGo
def worstI (e p : Int) (xs : List (Int × Int)) : Int × Int :=
  if (residI e p xs).2 ≠ 0 then (0, (residI e p xs).2) else if (residI e p xs).1.length = 0 then (0, 3) else ((worstGo (residI e p xs).1 0 0 (residI e p xs).1 : Nat), 0)
theorem residI_len50 (e p : Int) (xs : List (Int × Int)) : (residI e p xs).1.length ≤ 50 := by
  unfold residI; split
  · simp
  · rename_i h; simp at h; have := minimaB_len h.1; simpa [residL] using this
theorem residI_bd (e p : Int) (xs : List (Int × Int)) : ∀ (k : Nat) (x : Int), (residI e p xs).1[k]? = some x → -20020000000 ≤ x ∧ x ≤ 20020000000 := by
  unfold residI; split
  · intro k x h; simp at h
  · rename_i h; simp at h
    intro k x hx
    simp [residL] at hx
    obtain ⟨a, b, hab, rfl⟩ := hx
    obtain ⟨q1, q2, q3, q4⟩ := minimaB_get h.1 hab
    obtain ⟨e1, e2, p1, p2⟩ := ephB_iff.1 h.2
    obtain ⟨m1, m2⟩ := mulp_bd q1 q2 p1 p2
    dsimp only at *
    omega
set_option maxHeartbeats 4000000 in
theorem WorstMinimum_c (u : Value) (xs : List (Int × Int)) (e p : Int) (w : World) (hu : Rd cel2 w u xs) :
    Calls Try.prog 41 #[u, .agg #[.int .i64 e, .int .i64 p]] w (Ret (.tuple #[.int .i64 (worstI e p xs).1, .int .i64 (worstI e p xs).2]) w) := by
  refine hide_ret fun v H => ?_
  have hlen := residI_len50 e p xs
  have hbd := residI_bd e p xs
  have HC := Lib.hid (fun w hu => ResidualsOf_c u xs e p w hu)
  unfold worstI at H
  generalize residI e p xs = s at *
  obtain ⟨rs, code⟩ := s
  dsimp only at HC hlen hbd
  by_cases h1 : code = 0
  · subst h1
    by_cases h2 : rs.length = 0
    · simp only [h2, ne_eq, not_true_eq_false, if_false, if_true] at H
      have h2' : rs = [] := List.length_eq_zero_iff.1 h2
      subst h2'
      go_enter Try.func41, Try.ntmps41
      go_wp2_with (first | (go_at_call 37; refine Calls.mono (HC.out _ (hu.bel (by (repeat (first | exact Bel.refl _ | apply Bel.ext | apply Bel.alloc | apply Bel.drew | refine Bel.set ?_ (by first | (simp; done) | (simp [go_sem]; done) | omega) _))))) ?_; rintro ee ww ⟨v0, g0, rfl, rfl, hown⟩; obtain ⟨a0, c0, rfl, hn0, hm0⟩ := own_len hown))
      all_goals go_ret2
      all_goals refine Ret.mk ?_ (?_ : Bel _ _)
      all_goals first | (repeat (first | exact Bel.refl _ | apply Bel.ext | apply Bel.alloc | apply Bel.drew | refine Bel.set ?_ (by first | (simp; done) | (simp [go_sem]; done) | omega) _)); done | exact H.out
    · simp only [h2, ne_eq, not_true_eq_false, if_false] at H
      have h2' : ((rs.length : Int) == 0) = false := by simp; exact fun e => h2 (by simp [e])
      go_enter Try.func41, Try.ntmps41
      go_wp2_with (first | (go_at_call 37; refine Calls.mono (HC.out _ (hu.bel (by (repeat (first | exact Bel.refl _ | apply Bel.ext | apply Bel.alloc | apply Bel.drew | refine Bel.set ?_ (by first | (simp; done) | (simp [go_sem]; done) | omega) _))))) ?_; rintro ee ww ⟨v0, g0, rfl, rfl, hown⟩; obtain ⟨a0, c0, rfl, hn0, hm0⟩ := own_len hown))
      have hrd := rd_of_row hown
      have hwA : Bel w (ext (w.alloc (Obj.cells #[.int .i64 e, .int .i64 p] 56)) g0) := by (repeat (first | exact Bel.refl _ | apply Bel.ext | apply Bel.alloc | apply Bel.drew | refine Bel.set ?_ (by first | (simp; done) | (simp [go_sem]; done) | omega) _))
      generalize ext (w.alloc (Obj.cells #[.int .i64 e, .int .i64 p] 56)) g0 = A at *
      obtain ⟨a1, n1, c1, heq, hs⟩ := hrd.sl
      cases heq
      have HL := Lib.hid hs.len
      have hmax := hs.cap
      unfold maxLen at hmax
      obtain ⟨b, off, rfl, hb⟩ := hs.base (k := 0) (by omega)
      go_loopw [8, 27] (fun j i wr => ∃ k best : Nat, k ≤ rs.length ∧ best < rs.length ∧ i = .int .i64 k ∧ j = .int .i64 best ∧ (∃ g, wr = ext A g) ∧ Hid ((worstGo rs 0 0 rs : Nat) = worstGo rs k best (rs.drop k))) (fun _ i _ => rs.length - (intOf i).toNat)
      case atStart => exact ⟨0, 0, Nat.zero_le _, by omega, rfl, rfl, ext_ex (Bel.refl _), Lib.hid rfl⟩
      case round =>
        obtain ⟨k, best, hk, hbest, rfl, rfl, ⟨g, rfl⟩, hv⟩ := hrel
        by_cases hlt : k < rs.length
        · obtain ⟨x, hx, hc0⟩ := hs.at1 hlt
          obtain ⟨y, hy, hd0⟩ := hs.at1 hbest
          have hbx := hbd k x hx.out
          have hby := hbd best y hy.out
          have hgy := Lib.hid (show rs.getD best 0 = y by simp [List.getD, hy.out])
          by_cases h3 : absI y < absI x
          · go_wp2_with (first | (go_at_call 68; refine (abs_c _ (by omega) _).mono ?_; rintro ee ww ⟨rfl, rfl⟩))
            all_goals (try ((refine region_ext (by kernel_rfl) (by kernel_rfl) ?_; (repeat (go_big_quiet_step (first | (go_at_call 68; exact Calls.in_same (abs_c _ (by omega) _))))); refine wpQuiet_nil ?_; rintro _ ⟨_, rfl⟩); go_wp2_with (first | (go_at_call 68; refine (abs_c _ (by omega) _).mono ?_; rintro ee ww ⟨rfl, rfl⟩))))
            go_roundw
            case rel =>
              refine ⟨k + 1, k, by omega, by omega, by go_num, by go_num, ext_ex (by (repeat (first | exact Bel.refl _ | apply Bel.ext | apply Bel.alloc | apply Bel.drew | refine Bel.set ?_ (by first | (simp; done) | (simp [go_sem]; done) | omega) _)) : Bel _ _), Lib.hid ?_⟩
              rw [hv.out, drop_cons_of hx.out, worstGo_pos (by rw [hgy.out]; exact h3)]
            case measure => simp [intOf]; omega
          · have h3' : decide (absI y < absI x) = false := by simp; omega
            go_wp2_with (first | (go_at_call 68; refine (abs_c _ (by omega) _).mono ?_; rintro ee ww ⟨rfl, rfl⟩))
            all_goals (try ((refine region_ext (by kernel_rfl) (by kernel_rfl) ?_; (repeat (go_big_quiet_step (first | (go_at_call 68; exact Calls.in_same (abs_c _ (by omega) _))))); refine wpQuiet_nil ?_; rintro _ ⟨_, rfl⟩); go_wp2_with (first | (go_at_call 68; refine (abs_c _ (by omega) _).mono ?_; rintro ee ww ⟨rfl, rfl⟩))))
            go_roundw
            case rel =>
              refine ⟨k + 1, best, by omega, by omega, by go_num, by go_num, ext_ex (by (repeat (first | exact Bel.refl _ | apply Bel.ext | apply Bel.alloc | apply Bel.drew | refine Bel.set ?_ (by first | (simp; done) | (simp [go_sem]; done) | omega) _)) : Bel _ _), Lib.hid ?_⟩
              rw [hv.out, drop_cons_of hx.out, worstGo_neg (by rw [hgy.out]; omega)]
            case measure => simp [intOf]; omega
        · go_wp2
          go_ret2
          refine Ret.mk ?_ ?_
          · rw [← H.out, hv.out, List.drop_of_length_le (by omega), worstGo_nil]
            try rfl
          · exact Below.trans hwA (Below.mono ((Bel.refl A).ext _) hwA.size)
  · simp only [h1, ne_eq, not_false_eq_true, if_true] at H
    have h1' : (code == 0) = false := by simp [h1]
    have h1'' : (code != 0) = true := by simp [h1]
    go_enter Try.func41, Try.ntmps41
    go_wp2_with (first | (go_at_call 37; refine Calls.mono (HC.out _ (hu.bel (by (repeat (first | exact Bel.refl _ | apply Bel.ext | apply Bel.alloc | apply Bel.drew | refine Bel.set ?_ (by first | (simp; done) | (simp [go_sem]; done) | omega) _))))) ?_; rintro ee ww ⟨v0, g0, rfl, rfl, hown⟩; obtain ⟨a0, c0, rfl, hn0, hm0⟩ := own_len hown))
    all_goals go_ret2
    all_goals refine Ret.mk ?_ (?_ : Bel _ _)
    all_goals first | (repeat (first | exact Bel.refl _ | apply Bel.ext | apply Bel.alloc | apply Bel.drew | refine Bel.set ?_ (by first | (simp; done) | (simp [go_sem]; done) | omega) _)); done | exact H.out
set_option maxHeartbeats 4000000 in
theorem sWorstMinimum_c (u : Value) (xs : List (Int × Int)) (e p : Int) (w : World) (hu : Rd cel2 w u xs) :
    Calls Try.prog 40 #[u, .agg #[.int .i64 e, .int .i64 p]] w (Ret (.tuple #[.int .i64 (worstI e p xs).1, .int .i64 (worstI e p xs).2]) w) := by
  refine hide_ret fun v H => ?_
  have hlen := residI_len50 e p xs
  have hbd := residI_bd e p xs
  have HC := Lib.hid (fun w hu => sResidualsOf_c u xs e p w hu)
  unfold worstI at H
  generalize residI e p xs = s at *
  obtain ⟨rs, code⟩ := s
  dsimp only at HC hlen hbd
  by_cases h1 : code = 0
  · subst h1
    by_cases h2 : rs.length = 0
    · simp only [h2, ne_eq, not_true_eq_false, if_false, if_true] at H
      have h2' : rs = [] := List.length_eq_zero_iff.1 h2
      subst h2'
      go_enter Try.func40, Try.ntmps40
      go_wp2_with (first | (go_at_call 35; refine Calls.mono (HC.out _ (hu.bel (by (repeat (first | exact Bel.refl _ | apply Bel.ext | apply Bel.alloc | apply Bel.drew | refine Bel.set ?_ (by first | (simp; done) | (simp [go_sem]; done) | omega) _))))) ?_; rintro ee ww ⟨v0, g0, rfl, rfl, hown⟩; obtain ⟨a0, c0, rfl, hn0, hm0⟩ := own_len hown))
      all_goals go_ret2
      all_goals refine Ret.mk ?_ (?_ : Bel _ _)
      all_goals first | (repeat (first | exact Bel.refl _ | apply Bel.ext | apply Bel.alloc | apply Bel.drew | refine Bel.set ?_ (by first | (simp; done) | (simp [go_sem]; done) | omega) _)); done | exact H.out
    · simp only [h2, ne_eq, not_true_eq_false, if_false] at H
      have h2' : ((rs.length : Int) == 0) = false := by simp; exact fun e => h2 (by simp [e])
      go_enter Try.func40, Try.ntmps40
      go_wp2_with (first | (go_at_call 35; refine Calls.mono (HC.out _ (hu.bel (by (repeat (first | exact Bel.refl _ | apply Bel.ext | apply Bel.alloc | apply Bel.drew | refine Bel.set ?_ (by first | (simp; done) | (simp [go_sem]; done) | omega) _))))) ?_; rintro ee ww ⟨v0, g0, rfl, rfl, hown⟩; obtain ⟨a0, c0, rfl, hn0, hm0⟩ := own_len hown))
      have hrd := rd_of_row hown
      have hwA : Bel w (ext (w.alloc (Obj.cells #[.int .i64 e, .int .i64 p] 56)) g0) := by (repeat (first | exact Bel.refl _ | apply Bel.ext | apply Bel.alloc | apply Bel.drew | refine Bel.set ?_ (by first | (simp; done) | (simp [go_sem]; done) | omega) _))
      generalize ext (w.alloc (Obj.cells #[.int .i64 e, .int .i64 p] 56)) g0 = A at *
      obtain ⟨a1, n1, c1, heq, hs⟩ := hrd.sl
      cases heq
      have HL := Lib.hid hs.len
      have hmax := hs.cap
      unfold maxLen at hmax
      obtain ⟨b, off, rfl, hb⟩ := hs.base (k := 0) (by omega)
      go_loopw [8, 9] (fun j i wr => ∃ k best : Nat, k ≤ rs.length ∧ best < rs.length ∧ i = .int .i64 k ∧ j = .int .i64 best ∧ (∃ g, wr = ext A g) ∧ Hid ((worstGo rs 0 0 rs : Nat) = worstGo rs k best (rs.drop k))) (fun _ i _ => rs.length - (intOf i).toNat)
      case atStart => exact ⟨1, 0, by omega, by omega, rfl, rfl, ext_ex (Bel.refl _), Lib.hid (worstGo_start (by omega))⟩
      case round =>
        obtain ⟨k, best, hk, hbest, rfl, rfl, ⟨g, rfl⟩, hv⟩ := hrel
        by_cases hlt : k < rs.length
        · obtain ⟨x, hx, hc0⟩ := hs.at1 hlt
          obtain ⟨y, hy, hd0⟩ := hs.at1 hbest
          have hbx := hbd k x hx.out
          have hby := hbd best y hy.out
          have hgy := Lib.hid (show rs.getD best 0 = y by simp [List.getD, hy.out])
          by_cases h3 : absI y < absI x
          · go_wp2_with (first | (go_at_call 67; refine (l02Size_c _ (by omega) _).mono ?_; rintro ee ww ⟨rfl, rfl⟩))
            all_goals (try ((refine region_ext (by kernel_rfl) (by kernel_rfl) ?_; (repeat (go_big_quiet_step (first | (go_at_call 67; exact Calls.in_same (l02Size_c _ (by omega) _))))); refine wpQuiet_nil ?_; rintro _ ⟨_, rfl⟩); go_wp2_with (first | (go_at_call 67; refine (l02Size_c _ (by omega) _).mono ?_; rintro ee ww ⟨rfl, rfl⟩))))
            go_roundw
            case rel =>
              refine ⟨k + 1, k, by omega, by omega, by go_num, by go_num, ext_ex (by (repeat (first | exact Bel.refl _ | apply Bel.ext | apply Bel.alloc | apply Bel.drew | refine Bel.set ?_ (by first | (simp; done) | (simp [go_sem]; done) | omega) _)) : Bel _ _), Lib.hid ?_⟩
              rw [hv.out, drop_cons_of hx.out, worstGo_pos (by rw [hgy.out]; exact h3)]
            case measure => simp [intOf]; omega
          · have h3' : decide (absI y < absI x) = false := by simp; omega
            go_wp2_with (first | (go_at_call 67; refine (l02Size_c _ (by omega) _).mono ?_; rintro ee ww ⟨rfl, rfl⟩))
            all_goals (try ((refine region_ext (by kernel_rfl) (by kernel_rfl) ?_; (repeat (go_big_quiet_step (first | (go_at_call 67; exact Calls.in_same (l02Size_c _ (by omega) _))))); refine wpQuiet_nil ?_; rintro _ ⟨_, rfl⟩); go_wp2_with (first | (go_at_call 67; refine (l02Size_c _ (by omega) _).mono ?_; rintro ee ww ⟨rfl, rfl⟩))))
            go_roundw
            case rel =>
              refine ⟨k + 1, best, by omega, by omega, by go_num, by go_num, ext_ex (by (repeat (first | exact Bel.refl _ | apply Bel.ext | apply Bel.alloc | apply Bel.drew | refine Bel.set ?_ (by first | (simp; done) | (simp [go_sem]; done) | omega) _)) : Bel _ _), Lib.hid ?_⟩
              rw [hv.out, drop_cons_of hx.out, worstGo_neg (by rw [hgy.out]; omega)]
            case measure => simp [intOf]; omega
        · go_wp2
          go_ret2
          refine Ret.mk ?_ ?_
          · rw [← H.out, hv.out, List.drop_of_length_le (by omega), worstGo_nil]
            try rfl
          · exact Below.trans hwA (Below.mono ((Bel.refl A).ext _) hwA.size)
  · simp only [h1, ne_eq, not_false_eq_true, if_true] at H
    have h1' : (code == 0) = false := by simp [h1]
    have h1'' : (code != 0) = true := by simp [h1]
    go_enter Try.func40, Try.ntmps40
    go_wp2_with (first | (go_at_call 35; refine Calls.mono (HC.out _ (hu.bel (by (repeat (first | exact Bel.refl _ | apply Bel.ext | apply Bel.alloc | apply Bel.drew | refine Bel.set ?_ (by first | (simp; done) | (simp [go_sem]; done) | omega) _))))) ?_; rintro ee ww ⟨v0, g0, rfl, rfl, hown⟩; obtain ⟨a0, c0, rfl, hn0, hm0⟩ := own_len hown))
    all_goals go_ret2
    all_goals refine Ret.mk ?_ (?_ : Bel _ _)
    all_goals first | (repeat (first | exact Bel.refl _ | apply Bel.ext | apply Bel.alloc | apply Bel.drew | refine Bel.set ?_ (by first | (simp; done) | (simp [go_sem]; done) | omega) _)); done | exact H.out
end Go.Proofs.Ytlnpfggcmjljbaa
