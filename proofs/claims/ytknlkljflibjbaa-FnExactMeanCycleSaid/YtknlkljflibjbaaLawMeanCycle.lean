/- 'FnExactMeanCycle' returns true, whatever the curve and the numbers; no condition. -/
import Derived.Test.YtknlkljflibjbaaMean2
import Derived.Test.YtknlkljflibjbaaRowPoint
import Derived.Test.YtknlkljflibjbaaEph
import Derived.Test.YtknlkljflibjbaaOpen
namespace Go.Proofs.Ytknlkljflibjbaa.lawMeanCycle
open Go.ChangeShapes Go.WideShapes Go.ChangeAt Go.RowKit

set_option maxHeartbeats 8000000 in
theorem walk (a_xs : Option Addr) (n_xs c_xs : Nat) (xs : List (Int × Int)) (s kd : Int) (w : World) (hs_xs : Sl cel2 w a_xs n_xs c_xs xs) :
    Calls Try.prog 8 #[.slice a_xs n_xs c_xs, .int .i64 s, .int .i64 kd] w (Ret (.bool true) w) := by
  refine hide_ret fun v H => ?_
  have hcap_xs := hs_xs.le; have hmax_xs := hs_xs.cap
  unfold maxLen at hmax_xs
  have HL_xs := Lib.hid hs_xs.len
  have hr_xs : ∀ x, Bel w x → Rd cel2 x (.slice a_xs n_xs c_xs) xs := fun x hx => hs_xs.rd.bel hx
  have T1 := fun u w hu => sMeanCycle_c u xs s kd w hu
  have T2 := fun u w hu => MeanCycle_c u xs s kd w hu
  generalize meanI xs s kd = z at *
  obtain ⟨a, b, e⟩ := z
  dsimp only at T1 T2
  have S1 := Lib.hid T1
  have S2 := Lib.hid T2
  clear T1 T2
  have hq : (e != e) = false := by simp
  by_cases hn_xs : (1048576 : Int) < n_xs
  · go_enter Try.func8, Try.ntmps8
    go_wp2_with (first | (go_at_call 12; refine (szPointS_c _ _ _ _ (by omega) (by omega) (by omega) _).mono ?_; rintro ee ww ⟨rfl, rfl⟩))
    all_goals (try ((refine region_ext (by kernel_rfl) (by kernel_rfl) ?_; (repeat (go_big_quiet_step (first | (go_at_call 12; exact Calls.in_same (szPointS_c _ _ _ _ (by omega) (by omega) (by omega) _))))); refine wpQuiet_nil ?_; rintro _ ⟨_, rfl⟩); go_wp2_with (first | (go_at_call 12; refine (szPointS_c _ _ _ _ (by omega) (by omega) (by omega) _).mono ?_; rintro ee ww ⟨rfl, rfl⟩))))
    go_ret
    refine Ret.mk ?_ (?_ : Bel _ _)
    · exact H.out
    · (repeat (first | with_reducible exact Bel.refl _ | apply Bel.ext | apply Bel.alloc | apply Bel.drew | exact Bel.refl _ | refine Bel.set ?_ (by first | (simp; done) | (simp [go_sem]; done) | omega) _))
  have hlen_xs : xs.length ≤ 1000000000 := by rw [← HL_xs.out]; omega
  go_enter Try.func8, Try.ntmps8
  go_wp2_with (first | (go_at_call 12; refine Calls.mono (szPointS_c _ _ _ _ (by omega) (by omega) (by omega) _) ?_; rintro ee ww ⟨rfl, rfl⟩) | (go_at_call 14; refine Calls.mono (toPointS_c _ xs _ (hr_xs _ ?_) hlen_xs) ?_; (focus (repeat (first | with_reducible exact Bel.refl _ | apply Bel.ext | apply Bel.alloc | apply Bel.drew | exact Bel.refl _))); rintro ee ww ⟨_, _, rfl, rfl, _⟩) | (go_at_call 38; refine Calls.mono (S1.out _ _ ?_) ?_; (focus (apply Rd.bel; (focus (apply rd_of_row; assumption)); (repeat (first | exact Bel.refl _ | apply Bel.ext | apply Bel.alloc | apply Bel.drew)))); rintro ee ww ⟨rfl, _, rfl⟩) | (go_at_call 39; refine Calls.mono (S2.out _ _ ?_) ?_; (focus (apply Rd.bel; (focus (apply rd_of_row; assumption)); (repeat (first | exact Bel.refl _ | apply Bel.ext | apply Bel.alloc | apply Bel.drew)))); rintro ee ww ⟨rfl, _, rfl⟩) | (go_at_call 40; refine Calls.mono (eqFraction_c _ _ _ _ _) ?_; rintro ee ww ⟨rfl, _, rfl⟩) | (go_at_call 17; refine Calls.mono (eqPointS_c _ _ xs xs _ ?_ ?_) ?_; (focus (apply Rd.bel; (focus (apply rd_of_row; assumption)); (repeat (first | exact Bel.refl _ | apply Bel.ext | apply Bel.alloc | apply Bel.drew)))); (focus (apply Rd.bel; (focus (apply rd_of_row; assumption)); (repeat (first | exact Bel.refl _ | apply Bel.ext | apply Bel.alloc | apply Bel.drew)))); rintro ee ww ⟨rfl, _, rfl⟩))
  all_goals go_ret
  all_goals refine Ret.mk ?_ (?_ : Bel _ _)
  all_goals first | exact H.out | (repeat (first | with_reducible exact Bel.refl _ | apply Bel.ext | apply Bel.alloc | apply Bel.drew | exact Bel.refl _ | refine Bel.set ?_ (by first | (simp; done) | (simp [go_sem]; done) | omega) _))

set_option maxRecDepth 100000 in
theorem lifted (os : Os) (started : os.Started) (H : Type) (enc : TypeId × Value → H) :
    ReturnsInHanded {} Try.checked os 8 .any (Rows.fnExactMeanCycleSpec.pre6 enc Try.prog Try.f8 Rows.fnExactMeanCycleRow.domain false) (Rows.fnExactMeanCycleSpec.post enc Try.prog Try.f8 false true false false) := by
  refine returnsInHanded_of_change (C := Try.checked) own started (by kernel_rfl) Try.func8
    (ChangeSpec.witness6 (enc := enc) (C := Try.checked) false ⟨#[], #[.slice none 0 0, .int .i64 0, .int .i64 0], []⟩ 8 (by kernel_rfl) (by kernel_rfl) (by kernel_rfl) (by kernel_rfl)) ?_
  intro W base args ds gs before hval0 hW _ _
  have hval : ∀ (j : Nat) t v, Try.f8.params[j]? = some t → args[j]? = some v → Value.okWide Try.prog W .any base t v := hval0
  have hW' := hW
  obtain ⟨p, q, hA0, hV, rfl, hfz, hnd⟩ := hW
  have hA : DataW.TrodAll enc Try.prog W 0 (fun _ => true) true Try.f8.params.toList args.toList ds p := hA0
  have hlt : ∀ x ∈ p, x.block < W.heap.size := fun x hx => hW'.lt x (by simp [hx])
  rw [Try.params8] at hA hval
  have hK := hA
  obtain ⟨v0, vs0, d0, ds0, p0, q0, hargs, rfl, rfl, h0, r0⟩ := trodAll_cons hA
  obtain ⟨v1, vs1, d1, ds1, p1, q1, rfl, rfl, rfl, h1, r1⟩ := trodAll_cons r0
  obtain ⟨v2, vs2, d2, ds2, p2, q2, rfl, rfl, rfl, h2, r2⟩ := trodAll_cons r1
  obtain ⟨rfl, rfl, rfl⟩ := trodAll_nil r2
  obtain rfl : args = #[v0, v1, v2] := by cases args; simp_all
  obtain ⟨rfl, rfl⟩ := trodVars_none hV
  obtain ⟨a0, n0, cp0, xs0, rfl, hs0⟩ := open_sl2 Try.underlying22 Try.underlying50 (by kernel_rfl) rfl rfl (by kernel_rfl) (by kernel_rfl) (by kernel_rfl) (by kernel_rfl) (hval 0 22 v0 rfl rfl) h0
  obtain ⟨x1, rfl, -, -, w1⟩ := open_int Try.underlying2 (hval 1 2 v1 rfl rfl) h1
  obtain ⟨x2, rfl, -, -, w2⟩ := open_int Try.underlying2 (hval 2 2 v2 rfl rfl) h2
  refine (walk a0 n0 cp0 xs0 x1 x2 W hs0).mono fun e W' ⟨he, g, hg⟩ => ?_
  subst he
  have hb : Below W.heap.size W W' := by rw [hg]; exact ext_below W g
  have hARG := trodAll_below hb _ (by kernel_rfl) hlt hK
  exact ⟨_, rfl, [d0, d1, d2], [], _, [], p0 ++ (p1 ++ (p2 ++ ([]))), [], hW', trodAll_cons_mk (shut_bool Try.underlying4 _) trodAll_mk0, hARG, rfl, hb.frame _, fun h => by cases h⟩

theorem over : Rows.fnExactMeanCycleRow.holds Try.pinned (OpenSpec.ofChange Rows.fnExactMeanCycleSpec) :=
  OpenClaim.holds_of_wide 8 Try.f8 rfl rfl rfl rfl rfl rfl rfl ⟨rfl, rfl, rfl, rfl, rfl⟩ rfl rfl rfl rfl rfl (by kernel_rfl) Try.func8 (by kernel_rfl)
    (of_decide_eq_true (by kernel_rfl)) (by unfold Func.isWrapper; first | (rw [if_pos (by decide +kernel)]; kernel_rfl) | (rw [if_neg (by decide +kernel)]; exact ⟨rfl, rfl⟩))
    (fun os started H enc _ => lifted os started H enc)

theorem proved : Rows.FnExactMeanCycleSaid := over
end Go.Proofs.Ytknlkljflibjbaa.lawMeanCycle
