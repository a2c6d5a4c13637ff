/- Rules and facts: what the small functions on them return, in the program and in the reference. -/
import Derived.Test.YtdneffnnpjgnbaaName
namespace Go.Proofs.Ytdneffnnpjgnbaa
open Go.RowKit

def ruleB (c : ByteArray) (a b p q s : Int) : Bool := nameB c && ((s == 0 || inB s 1 3) && (inB a 0 20000 && (inB b a 20000 && (inB p 0 1000000 && inB q p 1000000))))
def factsB (x y z : Int) : Bool := inB x 0 20000 && (inB y 0 1000000 && inB z 1 3)
def matchB (a b p q s x y z : Int) : Bool := inB x a b && (inB y p q && (s == 0 || s == z))
theorem ruleB_iff {c : ByteArray} {a b p q s : Int} : ruleB c a b p q s = true ↔ nameB c = true ∧ 0 ≤ a ∧ a ≤ b ∧ b ≤ 20000 ∧ 0 ≤ p ∧ p ≤ q ∧ q ≤ 1000000 ∧ 0 ≤ s ∧ s ≤ 3 := by
  unfold ruleB
  simp only [Bool.and_eq_true, Bool.or_eq_true, beq_iff_eq, inB_iff]
  constructor
  · rintro ⟨h, h1, h2, h3, h4, h5⟩; exact ⟨h, by omega, by omega, by omega, by omega, by omega, by omega, by omega, by omega⟩
  · rintro ⟨h, h1, h2, h3, h4, h5, h6, h7, h8⟩; exact ⟨h, by omega, by omega, by omega, by omega, by omega⟩
theorem ruleB_false {c : ByteArray} {a b p q s : Int} (h : ¬ (nameB c = true ∧ 0 ≤ a ∧ a ≤ b ∧ b ≤ 20000 ∧ 0 ≤ p ∧ p ≤ q ∧ q ≤ 1000000 ∧ 0 ≤ s ∧ s ≤ 3)) : ruleB c a b p q s = false := by
  cases e : ruleB c a b p q s with
  | false => rfl
  | true => exact absurd (ruleB_iff.1 e) h
set_option maxHeartbeats 400000 in
theorem szRule_c (c : ByteArray) (a b p q s l : Int) (h1 : 0 ≤ l) (h2 : l ≤ 1000000000000) (h3 : c.size ≤ maxLen) (w : World) :
    Calls Try.prog 12 #[.agg #[.string c, .int .i64 a, .int .i64 b, .int .i64 p, .int .i64 q, .int .i64 s], .int .i64 l] w (Ret (.int .i64 (if l < c.size then -1 else l - c.size)) w) := by
  refine hide_ret fun v H => ?_
  unfold maxLen at h3
  by_cases h : l < c.size
  · go_enter Try.func12, Try.ntmps12
    go_wp2
    go_ret
    refine Ret.mk ?_ (?_ : Bel _ _)
    · rw [← H.out, if_pos h]; rfl
    · (repeat (first | with_reducible exact Bel.refl _ | with_reducible assumption | apply Bel.ext | apply Bel.alloc | apply Bel.drew | exact Bel.refl _ | refine Bel.set ?_ (by first | (simp; done) | (simp [go_sem]; done) | omega) _))
  · go_enter Try.func12, Try.ntmps12
    go_wp2
    go_ret
    refine Ret.mk ?_ (?_ : Bel _ _)
    · rw [← H.out, if_neg (by omega)]; rfl
    · (repeat (first | with_reducible exact Bel.refl _ | with_reducible assumption | apply Bel.ext | apply Bel.alloc | apply Bel.drew | exact Bel.refl _ | refine Bel.set ?_ (by first | (simp; done) | (simp [go_sem]; done) | omega) _))
set_option maxHeartbeats 1000000 in
theorem toRule_c (c : ByteArray) (a b p q s : Int) (w : World) : Calls Try.prog 14 #[.agg #[.string c, .int .i64 a, .int .i64 b, .int .i64 p, .int .i64 q, .int .i64 s]] w (Ret (.agg #[.string c, .int .i64 a, .int .i64 b, .int .i64 p, .int .i64 q, .int .i64 s]) w) := by
  refine hide_ret fun v H => ?_
  go_enter Try.func14, Try.ntmps14
  go_wp2
  refine bodyPost_ret (v := .agg #[.string c, .int .i64 a, .int .i64 b, .int .i64 p, .int .i64 q, .int .i64 s]) (by simp (maxDischargeDepth := 8) [results, Try.results14, go_sem]) rfl (Ret.mk ?_ (?_ : Bel _ _))
  · exact H.out
  · (repeat (first | with_reducible exact Bel.refl _ | with_reducible assumption | apply Bel.ext | apply Bel.alloc | apply Bel.drew | exact Bel.refl _ | refine Bel.set ?_ (by first | (simp; done) | (simp [go_sem]; done) | omega) _))
set_option maxHeartbeats 400000 in
theorem toFacts_c (x y z : Int) (w : World) : Calls Try.prog 15 #[.agg #[.int .i64 x, .int .i64 y, .int .i64 z]] w (Ret (.agg #[.int .i64 x, .int .i64 y, .int .i64 z]) w) := by
  refine hide_ret fun v H => ?_
  go_enter Try.func15, Try.ntmps15
  go_wp2
  refine bodyPost_ret (v := .agg #[.int .i64 x, .int .i64 y, .int .i64 z]) (by simp (maxDischargeDepth := 8) [results, Try.results15, go_sem]) rfl (Ret.mk ?_ (?_ : Bel _ _))
  · exact H.out
  · (repeat (first | with_reducible exact Bel.refl _ | with_reducible assumption | apply Bel.ext | apply Bel.alloc | apply Bel.drew | exact Bel.refl _ | refine Bel.set ?_ (by first | (simp; done) | (simp [go_sem]; done) | omega) _))
set_option maxHeartbeats 400000 in
theorem l18Shape_c (n : Int) (w : World) : Calls Try.prog 45 #[.int .i64 n] w (Same (.bool (inB n 1 3)) w) := by
  refine hide_same fun v H => ?_
  go_enter Try.func45, Try.ntmps45
  go_wp2_with (first | (go_at_call 46; refine (l00In_c _ _ _ _).mono ?_; rintro ee ww ⟨rfl, rfl⟩))
  go_ret
  exact Same.mk H.out
set_option maxHeartbeats 1000000 in
theorem l18Facts_c (x y z : Int) (w : World) : Calls Try.prog 25 #[.agg #[.int .i64 x, .int .i64 y, .int .i64 z]] w (Ret (.bool (factsB x y z)) w) := by
  refine hide_ret fun v H => ?_
  have V1 := Lib.hid (fun w => l00In_c x 0 20000 w)
  have V2 := Lib.hid (fun w => l00In_c y 0 1000000 w)
  have V3 := Lib.hid (fun w => l18Shape_c z w)
  unfold factsB at H
  generalize inB x 0 20000 = k1 at *
  generalize inB y 0 1000000 = k2 at *
  generalize inB z 1 3 = k3 at *
  rcases k1 with _ | _ <;> rcases k2 with _ | _ <;> simp only [Bool.not_true, Bool.not_false, Bool.true_or, Bool.or_true, Bool.false_or, Bool.or_false, Bool.true_and, Bool.and_true, Bool.false_and, Bool.and_false, if_true, if_false, Bool.false_eq_true] at H
  all_goals
    go_enter Try.func25, Try.ntmps25
    go_wp2_with (first | (go_at_call 46; refine args_g3 (.int .i64 x) (by with_reducible rfl) ?_; refine Calls.mono (V1.out _) ?_; rintro ee ww ⟨rfl, rfl⟩) | (go_at_call 46; refine args_g3 (.int .i64 y) (by with_reducible rfl) ?_; refine Calls.mono (V2.out _) ?_; rintro ee ww ⟨rfl, rfl⟩) | (go_at_call 45; refine Calls.mono (V3.out _) ?_; rintro ee ww ⟨rfl, rfl⟩))
    go_ret
    exact Ret.mk H.out (by (repeat (first | with_reducible exact Bel.refl _ | with_reducible assumption | apply Bel.ext | apply Bel.alloc | apply Bel.drew | exact Bel.refl _ | refine Bel.set ?_ (by first | (simp; done) | (simp [go_sem]; done) | omega) _)) : Bel _ _)
set_option maxHeartbeats 1000000 in
theorem areFacts_c (x y z : Int) (w : World) : Calls Try.prog 28 #[.agg #[.int .i64 x, .int .i64 y, .int .i64 z]] w (Ret (.bool (factsB x y z)) w) := by
  refine hide_ret fun v H => ?_
  have V1 := Lib.hid (fun w => in_c x 0 20000 w)
  have V2 := Lib.hid (fun w => in_c y 0 1000000 w)
  have V3 := Lib.hid (fun w => in_c z 1 3 w)
  unfold factsB at H
  generalize inB x 0 20000 = k1 at *
  generalize inB y 0 1000000 = k2 at *
  generalize inB z 1 3 = k3 at *
  rcases k1 with _ | _ <;> rcases k2 with _ | _ <;> simp only [Bool.not_true, Bool.not_false, Bool.true_or, Bool.or_true, Bool.false_or, Bool.or_false, Bool.true_and, Bool.and_true, Bool.false_and, Bool.and_false, if_true, if_false, Bool.false_eq_true] at H
  all_goals
    go_enter Try.func28, Try.ntmps28
    go_wp2_with (first | (go_at_call 48; refine args_g3 (.int .i64 x) (by with_reducible rfl) ?_; refine Calls.mono (V1.out _) ?_; rintro ee ww ⟨rfl, rfl⟩) | (go_at_call 48; refine args_g3 (.int .i64 y) (by with_reducible rfl) ?_; refine Calls.mono (V2.out _) ?_; rintro ee ww ⟨rfl, rfl⟩) | (go_at_call 48; refine args_g3 (.int .i64 z) (by with_reducible rfl) ?_; refine Calls.mono (V3.out _) ?_; rintro ee ww ⟨rfl, rfl⟩))
    go_ret
    exact Ret.mk H.out (by (repeat (first | with_reducible exact Bel.refl _ | with_reducible assumption | apply Bel.ext | apply Bel.alloc | apply Bel.drew | exact Bel.refl _ | refine Bel.set ?_ (by first | (simp; done) | (simp [go_sem]; done) | omega) _)) : Bel _ _)
set_option maxHeartbeats 4000000 in
theorem isRule_c (c : ByteArray) (a b p q s : Int) (w : World) : Calls Try.prog 27 #[.agg #[.string c, .int .i64 a, .int .i64 b, .int .i64 p, .int .i64 q, .int .i64 s]] w (Ret (.bool (ruleB c a b p q s)) w) := by
  refine hide_ret fun v H => ?_
  have HN := Lib.hid (fun w => IsName_c c w)
  have HI := Lib.hid (fun w => in_c s 0 3 w)
  have HT := Lib.hid (@ruleB_iff c a b p q s)
  have HF := Lib.hid (@ruleB_false c a b p q s)
  generalize ruleB c a b p q s = r at *
  generalize nameB c = k at *
  rcases k with _ | _
  · have H' : Hid (v = .bool false) := Lib.hid (H.out.symm.trans (by rw [HF.out (by simp)]))
    clear HT HF H
    go_enter Try.func27, Try.ntmps27
    go_wp2_with (first | (go_at_call 47; refine Calls.mono (HN.out _) ?_; rintro ee ww ⟨rfl, rfl⟩) | (go_at_call 48; refine Calls.mono (HI.out _) ?_; rintro ee ww ⟨rfl, rfl⟩))
    all_goals go_ret
    all_goals exact Ret.mk H'.out.symm (by (repeat (first | with_reducible exact Bel.refl _ | with_reducible assumption | apply Bel.ext | apply Bel.alloc | apply Bel.drew | exact Bel.refl _ | refine Bel.set ?_ (by first | (simp; done) | (simp [go_sem]; done) | omega) _)) : Bel _ _)
  · go_enter Try.func27, Try.ntmps27
    go_wp2_with (first | (go_at_call 47; refine Calls.mono (HN.out _) ?_; rintro ee ww ⟨rfl, rfl⟩) | (go_at_call 48; refine Calls.mono (HI.out _) ?_; rintro ee ww ⟨rfl, rfl⟩))
    all_goals go_ret
    all_goals
      have G : ∀ k, k = r → Value.bool k = v := fun k e => by rw [e]; exact H.out
      first
      | exact Ret.mk (G false (HF.out (by simp only [true_and]; omega)).symm) (by (repeat (first | with_reducible exact Bel.refl _ | with_reducible assumption | apply Bel.ext | apply Bel.alloc | apply Bel.drew | exact Bel.refl _ | refine Bel.set ?_ (by first | (simp; done) | (simp [go_sem]; done) | omega) _)) : Bel _ _)
      | (refine Ret.mk (G (inB s 0 3) ?_) (by (repeat (first | with_reducible exact Bel.refl _ | with_reducible assumption | apply Bel.ext | apply Bel.alloc | apply Bel.drew | exact Bel.refl _ | refine Bel.set ?_ (by first | (simp; done) | (simp [go_sem]; done) | omega) _)) : Bel _ _)
         symm
         cases e : inB s 0 3 with
         | false => rw [inB_false] at e; exact HF.out (by simp only [true_and]; omega)
         | true => rw [inB_iff] at e; exact HT.out.2 ⟨by first | trivial | rfl, by omega, by omega, by omega, by omega, by omega, by omega, by omega, by omega⟩)
set_option maxHeartbeats 2000000 in
theorem matches_c (c : ByteArray) (a b p q s x y z : Int) (w : World) : Calls Try.prog 29 #[.agg #[.string c, .int .i64 a, .int .i64 b, .int .i64 p, .int .i64 q, .int .i64 s], .agg #[.int .i64 x, .int .i64 y, .int .i64 z]] w (Ret (.bool (matchB a b p q s x y z)) w) := by
  refine hide_ret fun v H => ?_
  have V1 := Lib.hid (fun w => in_c x a b w)
  have V2 := Lib.hid (fun w => in_c y p q w)
  unfold matchB at H
  generalize inB x a b = k1 at *
  generalize inB y p q = k2 at *
  rcases k1 with _ | _ <;> rcases k2 with _ | _ <;> rcases k3 : (s == 0) with _ | _ <;> rw [k3] at H <;> simp only [Bool.not_true, Bool.not_false, Bool.true_or, Bool.or_true, Bool.false_or, Bool.or_false, Bool.true_and, Bool.and_true, Bool.false_and, Bool.and_false, if_true, if_false, Bool.false_eq_true] at H
  all_goals
    go_enter Try.func29, Try.ntmps29
    go_wp2_with (first | (go_at_call 48; refine args_g3 (.int .i64 x) (by with_reducible rfl) ?_; refine Calls.mono (V1.out _) ?_; rintro ee ww ⟨rfl, rfl⟩) | (go_at_call 48; refine args_g3 (.int .i64 y) (by with_reducible rfl) ?_; refine Calls.mono (V2.out _) ?_; rintro ee ww ⟨rfl, rfl⟩))
    go_ret
    exact Ret.mk H.out (by (repeat (first | with_reducible exact Bel.refl _ | with_reducible assumption | apply Bel.ext | apply Bel.alloc | apply Bel.drew | exact Bel.refl _ | refine Bel.set ?_ (by first | (simp; done) | (simp [go_sem]; done) | omega) _)) : Bel _ _)
set_option maxHeartbeats 4000000 in
theorem l18Match_c (bk o : Nat) (a b p q s x y z : Int) (w : World) (hb : bk < w.heap.size) (c1 : w.cell? ⟨bk, o + 1, none⟩ = some (.int .i64 a)) (c2 : w.cell? ⟨bk, o + 2, none⟩ = some (.int .i64 b)) (c3 : w.cell? ⟨bk, o + 3, none⟩ = some (.int .i64 p)) (c4 : w.cell? ⟨bk, o + 4, none⟩ = some (.int .i64 q)) (c5 : w.cell? ⟨bk, o + 5, none⟩ = some (.int .i64 s)) :
    Calls Try.prog 26 #[.pointer (some ⟨bk, o, none⟩), .agg #[.int .i64 x, .int .i64 y, .int .i64 z]] w (Ret (.bool (matchB a b p q s x y z)) w) := by
  refine hide_ret fun v H => ?_
  have V1 := Lib.hid (fun w => l00In_c x a b w)
  have V2 := Lib.hid (fun w => l00In_c y p q w)
  unfold matchB at H
  generalize inB x a b = k1 at *
  generalize inB y p q = k2 at *
  rcases k1 with _ | _ <;> rcases k2 with _ | _ <;> rcases k3 : (s == 0) with _ | _ <;> rw [k3] at H <;> simp only [Bool.not_true, Bool.not_false, Bool.true_or, Bool.or_true, Bool.false_or, Bool.or_false, Bool.true_and, Bool.and_true, Bool.false_and, Bool.and_false, if_true, if_false, Bool.false_eq_true] at H
  all_goals
    go_enter Try.func26, Try.ntmps26
    go_wp2_with fail
    refine region_ext (by kernel_rfl) (by kernel_rfl) ?_
    repeat (go_big_quiet_step (first | (go_at_call 46; refine args_g3 (.int .i64 x) (by with_reducible rfl) ?_; exact Calls.in_same (V1.out _)) | (go_at_call 46; refine args_g3 (.int .i64 y) (by with_reducible rfl) ?_; exact Calls.in_same (V2.out _))))
    refine wpQuiet_nil ?_
    rintro _ ⟨_, rfl⟩
    go_wp2
    go_ret
    exact Ret.mk H.out (by (repeat (first | with_reducible exact Bel.refl _ | with_reducible assumption | apply Bel.ext | apply Bel.alloc | apply Bel.drew | exact Bel.refl _ | refine Bel.set ?_ (by first | (simp; done) | (simp [go_sem]; done) | omega) _)) : Bel _ _)
set_option maxHeartbeats 8000000 in
theorem l18One_c (bk o : Nat) (c : ByteArray) (a b p q s : Int) (w : World) (hb : bk < w.heap.size) (c0 : w.cell? ⟨bk, o, none⟩ = some (.string c)) (c1 : w.cell? ⟨bk, o + 1, none⟩ = some (.int .i64 a)) (c2 : w.cell? ⟨bk, o + 2, none⟩ = some (.int .i64 b)) (c3 : w.cell? ⟨bk, o + 3, none⟩ = some (.int .i64 p)) (c4 : w.cell? ⟨bk, o + 4, none⟩ = some (.int .i64 q)) (c5 : w.cell? ⟨bk, o + 5, none⟩ = some (.int .i64 s)) :
    Calls Try.prog 24 #[.pointer (some ⟨bk, o, none⟩)] w (Ret (.bool (ruleB c a b p q s)) w) := by
  refine hide_ret fun v H => ?_
  have HN := Lib.hid (fun w => sIsName_c c w)
  have HS := Lib.hid (fun w => l18Shape_c s w)
  have V1 := Lib.hid (fun w => l00In_c a 0 20000 w)
  have V2 := Lib.hid (fun w => l00In_c b a 20000 w)
  have V3 := Lib.hid (fun w => l00In_c p 0 1000000 w)
  have V4 := Lib.hid (fun w => l00In_c q p 1000000 w)
  unfold ruleB at H
  generalize nameB c = k0 at *
  generalize inB s 1 3 = k6 at *
  generalize inB a 0 20000 = k1 at *
  generalize inB b a 20000 = k2 at *
  generalize inB p 0 1000000 = k3 at *
  generalize inB q p 1000000 = k4 at *
  have hne : (s != 0) = !(s == 0) := rfl
  rcases k0 with _ | _
  rotate_left
  rcases k5 : (s == 0) with _ | _ <;> rw [k5] at H hne
  rcases k6 with _ | _
  rotate_left
  rcases k1 with _ | _ <;> rcases k2 with _ | _ <;> rcases k3 with _ | _
  rotate_left 8
  rcases k1 with _ | _ <;> rcases k2 with _ | _ <;> rcases k3 with _ | _
  all_goals simp only [Bool.not_true, Bool.not_false, Bool.true_or, Bool.or_true, Bool.false_or, Bool.or_false, Bool.true_and, Bool.and_true, Bool.false_and, Bool.and_false, if_true, if_false, Bool.false_eq_true] at H
  all_goals (try simp only [Bool.not_true, Bool.not_false, Bool.true_or, Bool.or_true, Bool.false_or, Bool.or_false, Bool.true_and, Bool.and_true, Bool.false_and, Bool.and_false, if_true, if_false, Bool.false_eq_true] at hne)
  all_goals
    go_enter Try.func24, Try.ntmps24
    go_wp2_with (first | (go_at_call 44; refine Calls.mono (HN.out _) ?_; rintro ee ww ⟨rfl, rfl⟩) | (go_at_call 45; refine Calls.mono (HS.out _) ?_; rintro ee ww ⟨rfl, rfl⟩))
    try
      refine region_ext (by kernel_rfl) (by kernel_rfl) ?_
      repeat (go_big_quiet_step (first | (go_at_call 46; refine args_g3 (.int .i64 a) (by with_reducible rfl) ?_; exact Calls.in_same (V1.out _)) | (go_at_call 46; refine args_g3 (.int .i64 b) (by with_reducible rfl) ?_; exact Calls.in_same (V2.out _)) | (go_at_call 46; refine args_g3 (.int .i64 p) (by with_reducible rfl) ?_; exact Calls.in_same (V3.out _)) | (go_at_call 46; refine args_g3 (.int .i64 q) (by with_reducible rfl) ?_; exact Calls.in_same (V4.out _))))
      refine wpQuiet_nil ?_
      rintro _ ⟨_, rfl⟩
      go_wp2
    go_ret
    exact Ret.mk H.out (by (repeat (first | with_reducible exact Bel.refl _ | with_reducible assumption | apply Bel.ext | apply Bel.alloc | apply Bel.drew | exact Bel.refl _ | refine Bel.set ?_ (by first | (simp; done) | (simp [go_sem]; done) | omega) _)) : Bel _ _)
end Go.Proofs.Ytdneffnnpjgnbaa
