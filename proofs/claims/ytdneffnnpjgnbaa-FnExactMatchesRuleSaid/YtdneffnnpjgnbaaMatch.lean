/- Whether a rule matches facts: what the program and the reference return. -/
import Derived.Test.YtdneffnnpjgnbaaRule
namespace Go.Proofs.Ytdneffnnpjgnbaa
open Go.RowKit

def matchesI (c : ByteArray) (a b p q s x y z : Int) : Bool × Int :=
  if ruleB c a b p q s = false then (false, 1) else if factsB x y z = false then (false, 2) else (matchB a b p q s x y z, 0)
set_option maxHeartbeats 4000000 in
theorem MatchesRule_c (c : ByteArray) (a b p q s x y z : Int) (w : World) :
    Calls Try.prog 16 #[.agg #[.string c, .int .i64 a, .int .i64 b, .int .i64 p, .int .i64 q, .int .i64 s], .agg #[.int .i64 x, .int .i64 y, .int .i64 z]] w (Ret (.tuple #[.bool (matchesI c a b p q s x y z).1, .int .i64 (matchesI c a b p q s x y z).2]) w) := by
  refine hide_ret fun v H => ?_
  have V1 := Lib.hid (fun w => isRule_c c a b p q s w)
  have V2 := Lib.hid (fun w => areFacts_c x y z w)
  have V3 := Lib.hid (fun w => matches_c c a b p q s x y z w)
  unfold matchesI at H
  generalize ruleB c a b p q s = k1 at *
  generalize factsB x y z = k2 at *
  generalize matchB a b p q s x y z = k3 at *
  rcases k1 with _ | _ <;> rcases k2 with _ | _ <;> simp only [Bool.not_true, Bool.not_false, Bool.true_or, Bool.or_true, Bool.false_or, Bool.or_false, Bool.true_and, Bool.and_true, Bool.false_and, Bool.and_false, if_true, if_false, Bool.false_eq_true, Bool.true_eq_false] at H
  all_goals
    go_enter Try.func16, Try.ntmps16
    go_wp2_with (first | (go_at_call 27; refine Calls.mono (V1.out _) ?_; rintro ee ww ⟨rfl, _, rfl⟩) | (go_at_call 28; refine Calls.mono (V2.out _) ?_; rintro ee ww ⟨rfl, _, rfl⟩) | (go_at_call 29; refine Calls.mono (V3.out _) ?_; rintro ee ww ⟨rfl, _, rfl⟩))
    go_ret2
    refine Ret.mk ?_ (?_ : Bel _ _)
    · exact H.out
    · (repeat (first | with_reducible exact Bel.refl _ | with_reducible assumption | apply Bel.ext | apply Bel.alloc | apply Bel.drew | exact Bel.refl _ | refine Bel.set ?_ (by first | (simp; done) | (simp [go_sem]; done) | omega) _))
set_option maxHeartbeats 4000000 in
theorem sMatchesRule_c (c : ByteArray) (a b p q s x y z : Int) (w : World) :
    Calls Try.prog 13 #[.agg #[.string c, .int .i64 a, .int .i64 b, .int .i64 p, .int .i64 q, .int .i64 s], .agg #[.int .i64 x, .int .i64 y, .int .i64 z]] w (Ret (.tuple #[.bool (matchesI c a b p q s x y z).1, .int .i64 (matchesI c a b p q s x y z).2]) w) := by
  refine hide_ret fun v H => ?_
  have V1 := Lib.hid (fun bk w hb c0 c1 c2 c3 c4 c5 => l18One_c bk 0 c a b p q s w hb c0 c1 c2 c3 c4 c5)
  have V2 := Lib.hid (fun w => l18Facts_c x y z w)
  have V3 := Lib.hid (fun bk w hb c1 c2 c3 c4 c5 => l18Match_c bk 0 a b p q s x y z w hb c1 c2 c3 c4 c5)
  unfold matchesI at H
  generalize ruleB c a b p q s = k1 at *
  generalize factsB x y z = k2 at *
  generalize matchB a b p q s x y z = k3 at *
  rcases k1 with _ | _ <;> rcases k2 with _ | _ <;> simp only [Bool.not_true, Bool.not_false, Bool.true_or, Bool.or_true, Bool.false_or, Bool.or_false, Bool.true_and, Bool.and_true, Bool.false_and, Bool.and_false, if_true, if_false, Bool.false_eq_true, Bool.true_eq_false] at H
  all_goals
    go_enter Try.func13, Try.ntmps13
    go_wp2_with (first | (go_at_call 24; refine Calls.mono (V1.out _ _ ?_ ?_ ?_ ?_ ?_ ?_ ?_) ?_; (focus (simp [go_sem]; done)); (focus (simp [go_sem]; done)); (focus (simp [go_sem]; done)); (focus (simp [go_sem]; done)); (focus (simp [go_sem]; done)); (focus (simp [go_sem]; done)); (focus (simp [go_sem]; done)); rintro ee ww ⟨rfl, _, rfl⟩) | (go_at_call 25; refine Calls.mono (V2.out _) ?_; rintro ee ww ⟨rfl, _, rfl⟩) | (go_at_call 26; refine Calls.mono (V3.out _ _ ?_ ?_ ?_ ?_ ?_ ?_) ?_; (focus (simp [go_sem]; done)); (focus (simp [go_sem]; done)); (focus (simp [go_sem]; done)); (focus (simp [go_sem]; done)); (focus (simp [go_sem]; done)); (focus (simp [go_sem]; done)); rintro ee ww ⟨rfl, _, rfl⟩))
    go_ret2
    refine Ret.mk ?_ (?_ : Bel _ _)
    · exact H.out
    · (repeat (first | with_reducible exact Bel.refl _ | with_reducible assumption | apply Bel.ext | apply Bel.alloc | apply Bel.drew | exact Bel.refl _ | refine Bel.set ?_ (by first | (simp; done) | (simp [go_sem]; done) | omega) _))
end Go.Proofs.Ytdneffnnpjgnbaa
