/- Whether a list of rules is valid: what both sides return. -/
import Derived.Test.YtdneffnnpjgnbaaPredRule
namespace Go.Proofs.Ytdneffnnpjgnbaa
open Go.RowKit

def ruleP (x : RuleD) : Bool := ruleB x.1 x.2.1 x.2.2.1 x.2.2.2.1 x.2.2.2.2.1 x.2.2.2.2.2
def rulesB (xs : List RuleD) : Bool := decide (xs.length ≤ 12) && xs.all ruleP
theorem notRule_c (c : ByteArray) (x1 x2 x3 x4 x5 : Int) (w : World) : Calls Try.prog 32 (#[.agg #[.string c, .int .i64 x1, .int .i64 x2, .int .i64 x3, .int .i64 x4, .int .i64 x5]] ++ #[]) w (Ret (.bool (!ruleP (c, x1, x2, x3, x4, x5))) w) := by
  refine hide_ret fun v H => ?_
  show Calls Try.prog 32 #[.agg #[.string c, .int .i64 x1, .int .i64 x2, .int .i64 x3, .int .i64 x4, .int .i64 x5]] w _
  have HC := Lib.hid (fun w => isRule_c c x1 x2 x3 x4 x5 w)
  unfold ruleP at H
  dsimp only at H
  generalize ruleB c x1 x2 x3 x4 x5 = r at *
  cases r <;> simp only [Bool.not_true, Bool.not_false, if_true, if_false, Bool.false_eq_true] at H
  all_goals
    go_enter Try.func32, Try.ntmps32
    go_wp2_with (first | (go_at_call 27; refine Calls.mono (HC.out _) ?_; rintro ee ww ⟨rfl, _, rfl⟩))
    go_ret
    exact Ret.mk H.out (by (repeat (first | with_reducible exact Bel.refl _ | with_reducible assumption | apply Bel.ext | apply Bel.alloc | apply Bel.drew | exact Bel.refl _ | refine Bel.set ?_ (by first | (simp; done) | (simp [go_sem]; done) | omega) _)) : Bel _ _)
set_option maxHeartbeats 2000000 in
theorem ValidRules_c (u : Value) (xs : List RuleD) (w : World) (hu : Rd celR w u xs) : Calls Try.prog 18 #[u] w (Ret (.bool (rulesB xs)) w) := by
  refine hide_ret fun v H => ?_
  obtain ⟨a, n, cc, rfl, hs⟩ := hu.sl
  have HL := Lib.hid hs.len
  have eg : ∀ args w, (callFunc 32 args).run Try.prog w = .ok (.enter 32 args) w := enters_of Try.func32 (by kernel_rfl) rfl
  have HC := Lib.hid (fun w hu => ContainsFuncRule_c (fun x => !ruleP x) 32 #[] eg (.slice a n cc) xs w hu (fun c x1 x2 x3 x4 x5 W _ _ => notRule_c c x1 x2 x3 x4 x5 W))
  unfold rulesB at H
  rw [← HL.out] at H
  have e : xs.all ruleP = !(xs.any fun x => !ruleP x) := by rw [List.not_any_eq_all_not]; simp
  rw [e] at H
  clear e
  generalize xs.any (fun x => !ruleP x) = r at *
  by_cases h : n ≤ 12
  · have h' : (n : Int) ≤ 12 := by omega
    rw [decide_eq_true h, Bool.true_and] at H
    cases r <;> simp only [Bool.not_true, Bool.not_false, if_true, if_false, Bool.false_eq_true] at H
    all_goals
      go_enter Try.func18, Try.ntmps18
      go_wp2_with (first | (go_at_call 31; refine (HC.out _ (hu.bel ?_)).mono ?_; (focus (repeat (first | with_reducible exact Bel.refl _ | with_reducible assumption | apply Bel.ext | apply Bel.alloc | apply Bel.drew | exact Bel.refl _))); rintro ee ww ⟨rfl, _, rfl⟩))
      go_ret
      exact Ret.mk H.out (by (repeat (first | with_reducible exact Bel.refl _ | with_reducible assumption | apply Bel.ext | apply Bel.alloc | apply Bel.drew | exact Bel.refl _ | refine Bel.set ?_ (by first | (simp; done) | (simp [go_sem]; done) | omega) _)) : Bel _ _)
  · have h' : ¬ (n : Int) ≤ 12 := by omega
    rw [decide_eq_false h, Bool.false_and] at H
    go_enter Try.func18, Try.ntmps18
    go_wp2_with (first | (go_at_call 31; refine (HC.out _ (hu.bel ?_)).mono ?_; (focus (repeat (first | with_reducible exact Bel.refl _ | with_reducible assumption | apply Bel.ext | apply Bel.alloc | apply Bel.drew | exact Bel.refl _))); rintro ee ww ⟨rfl, _, rfl⟩))
    go_ret
    exact Ret.mk H.out (by (repeat (first | with_reducible exact Bel.refl _ | with_reducible assumption | apply Bel.ext | apply Bel.alloc | apply Bel.drew | exact Bel.refl _ | refine Bel.set ?_ (by first | (simp; done) | (simp [go_sem]; done) | omega) _)) : Bel _ _)
set_option maxHeartbeats 2000000 in
theorem l18Ok_c (u : Value) (xs : List RuleD) (w : World) (hu : Rd celR w u xs) : Calls Try.prog 30 #[u] w (Ret (.bool (rulesB xs)) w) := by
  refine hide_ret fun v H => ?_
  obtain ⟨a, n, cc, rfl, hs⟩ := hu.sl
  have hcap := hs.le; have hmax := hs.cap
  unfold maxLen at hmax
  have HL := Lib.hid hs.len
  unfold rulesB at H
  rw [← HL.out] at H
  go_enter Try.func30, Try.ntmps30
  go_wp2
  go_loopw [3] (fun i wr => ∃ k : Nat, k ≤ n ∧ i = .int .i64 k ∧ (∃ g, wr = ext w g) ∧ Hid (v = .bool (decide (n ≤ 12) && (xs.drop k).all ruleP))) (fun i _ => n - (intOf i).toNat)
  case atStart => exact ⟨0, Nat.zero_le _, rfl, ext_ex (Bel.refl _), Lib.hid (by rw [← H.out]; rfl)⟩
  case round =>
    obtain ⟨k, hk, rfl, ⟨g, rfl⟩, hv⟩ := hrel
    by_cases hlt : k < n
    · obtain ⟨b, off, rfl, hb⟩ := hs.base hlt
      obtain ⟨c, x1, x2, x3, x4, x5, hx, hc0, hc1, hc2, hc3, hc4, hc5⟩ := hs.atR hlt
      have hbX : b < (ext w g).heap.size := Nat.lt_of_lt_of_le hb (ext_size w g)
      have HD := Lib.hid (hv.out.trans (by rw [drop_cons_of hx.out]; rfl : _ = Value.bool (decide (n ≤ 12) && (ruleP (c, x1, x2, x3, x4, x5) && (xs.drop (k + 1)).all ruleP))))
      have HC := Lib.hid (l18One_c b (off + k * 6) c x1 x2 x3 x4 x5 (ext w g) hbX (by rw [ext_cell w g hb]; exact hc0) (by rw [ext_cell w g hb]; exact hc1) (by rw [ext_cell w g hb]; exact hc2) (by rw [ext_cell w g hb]; exact hc3) (by rw [ext_cell w g hb]; exact hc4) (by rw [ext_cell w g hb]; exact hc5))
      clear hv
      unfold ruleP at HD
      dsimp only at HD
      cases hr : ruleB c x1 x2 x3 x4 x5 <;> rw [hr] at HC HD <;> clear hr
      · rw [Bool.false_and, Bool.and_false] at HD
        go_wp2_with (first | (go_at_call 24; refine Calls.mono (HC.out) ?_; rintro ee ww ⟨rfl, _, rfl⟩))
        go_ret
        exact Ret.mk HD.out.symm (by (repeat (first | with_reducible exact Bel.refl _ | with_reducible assumption | apply Bel.ext | apply Bel.alloc | apply Bel.drew | exact Bel.refl _ | refine Bel.set ?_ (by first | (simp; done) | (simp [go_sem]; done) | omega) _)) : Bel _ _)
      · rw [Bool.true_and] at HD
        go_wp2_with (first | (go_at_call 24; refine Calls.mono (HC.out) ?_; rintro ee ww ⟨rfl, _, rfl⟩))
        go_roundw
        case rel => exact ⟨k + 1, by omega, by go_num, ext_ex (by (repeat (first | with_reducible exact Bel.refl _ | with_reducible assumption | apply Bel.ext | apply Bel.alloc | apply Bel.drew | exact Bel.refl _ | refine Bel.set ?_ (by first | (simp; done) | (simp [go_sem]; done) | omega) _)) : Bel _ _), HD⟩
        case measure => simp [intOf]; omega
    · have hv2 := hv.out
      rw [List.drop_of_length_le (by have := hs.len; omega)] at hv2
      have HV := Lib.hid hv2
      clear hv hv2
      by_cases h : n ≤ 12
      · have h' : (n : Int) ≤ 12 := by omega
        rw [decide_eq_true h] at HV
        go_wp2
        go_ret
        exact Ret.mk HV.out.symm (by (repeat (first | with_reducible exact Bel.refl _ | with_reducible assumption | apply Bel.ext | apply Bel.alloc | apply Bel.drew | exact Bel.refl _ | refine Bel.set ?_ (by first | (simp; done) | (simp [go_sem]; done) | omega) _)) : Bel _ _)
      · have h' : ¬ (n : Int) ≤ 12 := by omega
        rw [decide_eq_false h] at HV
        go_wp2
        go_ret
        exact Ret.mk HV.out.symm (by (repeat (first | with_reducible exact Bel.refl _ | with_reducible assumption | apply Bel.ext | apply Bel.alloc | apply Bel.drew | exact Bel.refl _ | refine Bel.set ?_ (by first | (simp; done) | (simp [go_sem]; done) | omega) _)) : Bel _ _)
theorem sValidRules_c (u : Value) (xs : List RuleD) (w : World) (hu : Rd celR w u xs) : Calls Try.prog 17 #[u] w (Ret (.bool (rulesB xs)) w) := by
  refine hide_ret fun v H => ?_
  have HC := Lib.hid (fun w hu => l18Ok_c u xs w hu)
  generalize rulesB xs = r at *
  go_enter Try.func17, Try.ntmps17
  go_wp2_with (first | (go_at_call 30; refine Calls.mono (HC.out _ (hu.bel ?_)) ?_; (focus (repeat (first | with_reducible exact Bel.refl _ | with_reducible assumption | apply Bel.ext | apply Bel.alloc | apply Bel.drew | exact Bel.refl _))); rintro ee ww ⟨rfl, _, rfl⟩))
  go_ret
  exact Ret.mk H.out (by (repeat (first | with_reducible exact Bel.refl _ | with_reducible assumption | apply Bel.ext | apply Bel.alloc | apply Bel.drew | exact Bel.refl _ | refine Bel.set ?_ (by first | (simp; done) | (simp [go_sem]; done) | omega) _)) : Bel _ _)
end Go.Proofs.Ytdneffnnpjgnbaa
