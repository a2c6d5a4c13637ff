/- Small functions on lists of int64s: all in a range, a number among them, their sum. -/
import Derived.Test.YthahkoclkjfkdaaPredInt
namespace Go.Proofs.Ythahkoclkjfkdaa
open Go.RowKit

set_option maxHeartbeats 1000000 in
theorem allIn_pred (lo hi x : Int) (B1 B2 : Nat) (w : World) (l1 : B1 < w.heap.size) (l2 : B2 < w.heap.size) (h1 : w.cell? ⟨B1, 0, none⟩ = some (.int .i64 lo)) (h2 : w.cell? ⟨B2, 0, none⟩ = some (.int .i64 hi)) :
    Calls Try.prog 60 (#[.int .i64 x] ++ #[.pointer (some ⟨B1, 0, none⟩), .pointer (some ⟨B2, 0, none⟩)]) w (Ret (.bool (!inB x lo hi)) w) := by
  refine hide_ret fun v H => ?_
  show Calls Try.prog 60 #[.int .i64 x, .pointer (some ⟨B1, 0, none⟩), .pointer (some ⟨B2, 0, none⟩)] w _
  have HC := Lib.hid (fun w => in_c x lo hi w)
  generalize inB x lo hi = r at *
  go_enter Try.func60, Try.ntmps60
  go_wp2_with (first | (go_at_call 44; refine (HC.out _).mono ?_; rintro ee ww ⟨rfl, rfl⟩))
  all_goals (try ((refine region_ext (by kernel_rfl) (by kernel_rfl) ?_; (repeat (go_big_quiet_step (fail))); refine wpQuiet_nil ?_; rintro _ ⟨_, rfl⟩); go_wp2))
  all_goals go_ret
  all_goals refine Ret.mk ?_ (?_ : Bel _ _)
  all_goals first | (repeat (first | with_reducible exact Bel.refl _ | with_reducible assumption | apply Bel.ext | apply Bel.alloc | apply Bel.drew | exact Bel.refl _ | refine Bel.set ?_ (by first | (simp; done) | (simp [go_sem]; done) | omega) _)); done | exact H.out
set_option maxHeartbeats 2000000 in
theorem allIn_c (u : Value) (xs : List Int) (lo hi : Int) (w : World) (hu : Rd celI w u xs) :
    Calls Try.prog 40 #[u, .int .i64 lo, .int .i64 hi] w (Ret (.bool (xs.all fun x => inB x lo hi)) w) := by
  refine hide_ret fun v H => ?_
  have eg : ∀ args w, (callFunc 60 args).run Try.prog w = .ok (.enter 60 args) w := enters_of Try.func60 (by kernel_rfl) rfl
  have hcon := ContainsFuncInt_c (fun x => !inB x lo hi) 60 #[.pointer (some ⟨w.heap.size, 0, none⟩), .pointer (some ⟨w.heap.size + 1, 0, none⟩)] eg u xs ((w.alloc (.cells #[.int .i64 lo] 2)).alloc (.cells #[.int .i64 hi] 2))
    (hu.bel (by (repeat (first | with_reducible exact Bel.refl _ | with_reducible assumption | apply Bel.ext | apply Bel.alloc | apply Bel.drew | exact Bel.refl _ | refine Bel.set ?_ (by first | (simp; done) | (simp [go_sem]; done) | omega) _)))) (fun x W _ hW => allIn_pred lo hi x w.heap.size (w.heap.size + 1) W (by have := hW.size; simp at this; omega) (by have := hW.size; simp at this; omega)
      (by rw [Below.cell hW (p := ⟨w.heap.size, 0, none⟩) (by simp; omega)]; simp [go_sem]) (by rw [Below.cell hW (p := ⟨w.heap.size + 1, 0, none⟩) (by simp)]; simp [go_sem]))
  rw [show (xs.any fun x => !inB x lo hi) = !(xs.all fun x => inB x lo hi) by simp [List.any_eq_not_all_not]] at hcon
  generalize (xs.all fun x => inB x lo hi) = r at *
  have HC := Lib.hid hcon
  clear hcon
  go_enter Try.func40, Try.ntmps40
  go_wp2_with (go_at_call 59; refine HC.out.mono ?_; rintro ee ww ⟨rfl, _, rfl⟩)
  all_goals go_ret
  all_goals refine Ret.mk ?_ (?_ : Bel _ _)
  all_goals first | (repeat (first | with_reducible exact Bel.refl _ | with_reducible assumption | apply Bel.ext | apply Bel.alloc | apply Bel.drew | exact Bel.refl _ | refine Bel.set ?_ (by first | (simp; done) | (simp [go_sem]; done) | omega) _)); done | (rw [← H.out]; simp; done) | exact H.out
end Go.Proofs.Ythahkoclkjfkdaa
