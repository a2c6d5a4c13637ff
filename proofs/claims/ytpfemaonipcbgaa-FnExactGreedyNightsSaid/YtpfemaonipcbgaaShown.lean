/- Bins that are shown in a window, as bits: what the program returns. -/
import Derived.Test.YtpfemaonipcbgaaBitsU
import Derived.Test.YtpfemaonipcbgaaFits
import Derived.Test.YtpfemaonipcbgaaMem
namespace Go.Proofs.Ytpfemaonipcbgaa
open Go.RowKit

set_option maxHeartbeats 4000000 in
theorem shown_c (e p x y n : Int) (h : ephB e p = true) (x1 : 0 ≤ x) (x2 : x ≤ 10000000) (y1 : 0 ≤ y) (y2 : y ≤ 10000000) (n1 : 1 ≤ n) (n2 : n ≤ 50) (n3 : n ≤ p) (xy : x ≤ y) (w : World) :
    Calls Try.prog 62 #[.agg #[.int .i64 e, .int .i64 p], .agg #[.int .i64 x, .int .i64 y], .int .i64 n] w (Ret (.int .u64 ((maskOf (shB e p n (x, y)) n.toNat : Nat) : Int)) w) := by
  refine hide_ret fun v H => ?_
  obtain ⟨e1, e2, p1, p2⟩ := ephB_iff.1 h
  have HE := Lib.hid (fun w => phase_c e p x h (by omega) (by omega) w)
  have f0 : 0 ≤ phaseI e p x := Int.emod_nonneg _ (by omega)
  have f1 : phaseI e p x < p := Int.emod_lt_of_pos _ (by omega)
  obtain ⟨f, hf⟩ : ∃ f, phaseI e p x = f := ⟨_, rfl⟩
  rw [hf] at HE f0 f1
  have HS : Hid (∀ k : Nat, shB e p n (x, y) k = decide (binWait p n f k ≤ y - x)) := fun k => by unfold shB; rw [hf]
  clear hf h
  generalize shB e p n (x, y) = S at *
  go_enter Try.func62, Try.ntmps62
  go_wp2_with (first | (go_at_call 69; refine Calls.mono (HE.out _) ?_; rintro ee ww ⟨rfl, _, rfl⟩))
  have hwA : Bel w ((w.alloc (Obj.cells #[.int .i64 e, .int .i64 p] 33)).alloc (Obj.cells #[.int .i64 x, .int .i64 y] 45)) := by (repeat (first | with_reducible exact Bel.refl _ | with_reducible assumption | apply Bel.ext | apply Bel.alloc | apply Bel.drew | exact Bel.refl _ | refine Bel.set ?_ (by first | (simp; done) | (simp [go_sem]; done) | omega) _))
  have hc0 : ((w.alloc (Obj.cells #[.int .i64 e, .int .i64 p] 33)).alloc (Obj.cells #[.int .i64 x, .int .i64 y] 45)).cell? ⟨w.heap.size, 0, none⟩ = some (.int .i64 e) := by simp [go_sem]
  have hc1 : ((w.alloc (Obj.cells #[.int .i64 e, .int .i64 p] 33)).alloc (Obj.cells #[.int .i64 x, .int .i64 y] 45)).cell? ⟨w.heap.size, 1, none⟩ = some (.int .i64 p) := by simp [go_sem]
  have hc2 : ((w.alloc (Obj.cells #[.int .i64 e, .int .i64 p] 33)).alloc (Obj.cells #[.int .i64 x, .int .i64 y] 45)).cell? ⟨w.heap.size + 1, 0, none⟩ = some (.int .i64 x) := by simp [go_sem]
  have hc3 : ((w.alloc (Obj.cells #[.int .i64 e, .int .i64 p] 33)).alloc (Obj.cells #[.int .i64 x, .int .i64 y] 45)).cell? ⟨w.heap.size + 1, 1, none⟩ = some (.int .i64 y) := by simp [go_sem]
  have hz0 : w.heap.size < ((w.alloc (Obj.cells #[.int .i64 e, .int .i64 p] 33)).alloc (Obj.cells #[.int .i64 x, .int .i64 y] 45)).heap.size := by first | (simp; done) | (simp; omega)
  have hz1 : w.heap.size + 1 < ((w.alloc (Obj.cells #[.int .i64 e, .int .i64 p] 33)).alloc (Obj.cells #[.int .i64 x, .int .i64 y] 45)).heap.size := by first | (simp; done) | (simp; omega)
  generalize ((w.alloc (Obj.cells #[.int .i64 e, .int .i64 p] 33)).alloc (Obj.cells #[.int .i64 x, .int .i64 y] 45)) = A at *
  have hM := mem_nil A
  go_loopw [7, 18] (fun s i wr => ∃ k : Nat, (k : Int) ≤ n ∧ i = .int .i64 k ∧ s = .int .u64 ((maskOf S k : Nat) : Int) ∧ Bel A wr) (fun _ i _ => (n - intOf i).toNat)
  case atStart => exact ⟨0, by omega, rfl, rfl, by (repeat (first | with_reducible exact Bel.refl _ | with_reducible assumption | apply Bel.ext | apply Bel.alloc | apply Bel.drew | exact Bel.refl _ | refine Bel.set ?_ (by first | (simp; done) | (simp [go_sem]; done) | omega) _))⟩
  case round =>
    obtain ⟨k, hk, rfl, rfl, hbel⟩ := hrel
    obtain ⟨g, rfl⟩ := ext_ex hbel
    by_cases hlt : (k : Int) < n
    · obtain ⟨b1, b2, b3⟩ := bin_facts (p := p) (n := n) (k := k) (by omega) n3 (by omega) hlt
      obtain ⟨q1, q2⟩ := mul_bd (k := k) (p := p) (a := 50) (b := 1000000) (by omega) (by omega) (by omega) p2
      obtain ⟨q3, q4⟩ := mul_bd (k := (k : Int) + 1) (p := p) (a := 51) (b := 1000000) (by omega) (by omega) (by omega) p2
      have w1 : IntKind.i64.wrap ((k : Int) * p) = (k : Int) * p := IntWalk.i64_in _ (by omega)
      have w2 : IntKind.i64.wrap ((k : Int) + 1) = (k : Int) + 1 := IntWalk.i64_in _ (by omega)
      have w3 : IntKind.i64.wrap (((k : Int) + 1) * p) = ((k : Int) + 1) * p := IntWalk.i64_in _ (by omega)
      have HW := Lib.hid (HS.out k)
      unfold binWait at HW
      go_wp2_with fail
      (refine region_ext (by kernel_rfl) (by kernel_rfl) ?_; (repeat (go_big_quiet_step (first | (go_at_call 36; exact Calls.in_same (ceil_c _ _ (by omega) (by omega) (by omega) _))))); refine wpQuiet_nil ?_; rintro _ ⟨_, rfl⟩)
      clear w1 w2 w3
      generalize ceilI ((k : Int) * p) n = u at *
      generalize ceilI (((k : Int) + 1) * p) n = t at *
      have HI := Lib.hid (fun w => in_c f u (t - 1) w)
      have w4 : IntKind.i64.wrap (t - 1) = t - 1 := IntWalk.i64_in _ (by omega)
      rcases hi : inB f u (t - 1) with _ | _
      · rw [hi] at HI HW
        have HM := Lib.hid (fun w => mod_c (u - f) p (by omega) (by omega) (by omega) (by omega) w)
        have r0 := Int.emod_nonneg (u - f) (show p ≠ 0 by omega)
        have r1 := Int.emod_lt_of_pos (u - f) (show 0 < p by omega)
        generalize (u - f) % p = r at *
        have HW2 : Hid (S k = decide (r ≤ y - x)) := HW
        clear hi HW
        by_cases hs : x + r ≤ y
        · have HB : Hid (S k = true) := Lib.hid (by rw [HW2.out]; exact decide_eq_true (by omega))
          go_wp2_with (first | (go_at_call 59; refine Calls.mono (HI.out _) ?_; rintro ee ww ⟨rfl, rfl⟩) | (go_at_call 70; refine Calls.mono (HM.out _) ?_; rintro ee ww ⟨rfl, rfl⟩))
          go_roundw
          case rel =>
            refine ⟨k + 1, by omega, by go_num, ?_, by (repeat (first | with_reducible exact Bel.refl _ | with_reducible assumption | apply Bel.ext | apply Bel.alloc | apply Bel.drew | exact Bel.refl _ | refine Bel.set ?_ (by first | (simp; done) | (simp [go_sem]; done) | omega) _))⟩
            rw [maskOf_put S (by omega) HB.out]
          case measure => simp [intOf]; omega
        · have HB : Hid (S k = false) := Lib.hid (by rw [HW2.out]; exact decide_eq_false (by omega))
          go_wp2_with (first | (go_at_call 59; refine Calls.mono (HI.out _) ?_; rintro ee ww ⟨rfl, rfl⟩) | (go_at_call 70; refine Calls.mono (HM.out _) ?_; rintro ee ww ⟨rfl, rfl⟩))
          go_roundw
          case rel =>
            refine ⟨k + 1, by omega, by go_num, ?_, by (repeat (first | with_reducible exact Bel.refl _ | with_reducible assumption | apply Bel.ext | apply Bel.alloc | apply Bel.drew | exact Bel.refl _ | refine Bel.set ?_ (by first | (simp; done) | (simp [go_sem]; done) | omega) _))⟩
            rw [maskOf_succ_or, HB.out]; simp
          case measure => simp [intOf]; omega
      · rw [hi] at HI HW
        have HB : Hid (S k = true) := Lib.hid (by rw [HW.out, if_pos rfl]; exact decide_eq_true (by omega))
        have hs : x ≤ y := xy
        clear hi HW
        go_wp2_with (first | (go_at_call 59; refine Calls.mono (HI.out _) ?_; rintro ee ww ⟨rfl, rfl⟩))
        go_roundw
        case rel =>
          refine ⟨k + 1, by omega, by go_num, ?_, by (repeat (first | with_reducible exact Bel.refl _ | with_reducible assumption | apply Bel.ext | apply Bel.alloc | apply Bel.drew | exact Bel.refl _ | refine Bel.set ?_ (by first | (simp; done) | (simp [go_sem]; done) | omega) _))⟩
          rw [maskOf_put S (by omega) HB.out]
        case measure => simp [intOf]; omega
    · have hkn : n.toNat = k := by omega
      have H2 := Lib.hid (show Value.int .u64 ((maskOf S k : Nat) : Int) = v by rw [← H.out, hkn])
      clear H hkn
      go_wp2
      go_ret
      refine Ret.mk ?_ (?_ : Bel _ _)
      · exact H2.out
      · exact Below.trans hwA (Below.mono (by (repeat (first | with_reducible exact Bel.refl _ | with_reducible assumption | apply Bel.ext | apply Bel.alloc | apply Bel.drew | exact Bel.refl _ | refine Bel.set ?_ (by first | (simp; done) | (simp [go_sem]; done) | omega) _)) : Bel A _) hwA.size)
end Go.Proofs.Ytpfemaonipcbgaa
