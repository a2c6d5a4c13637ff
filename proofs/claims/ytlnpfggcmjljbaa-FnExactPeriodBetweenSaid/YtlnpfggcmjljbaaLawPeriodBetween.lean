/- 'FnExactPeriodBetween' returns true, whatever the two minima; no condition. -/
import Derived.Test.YtlnpfggcmjljbaaPeriod
import Derived.Test.YtlnpfggcmjljbaaRowMinimum
import Derived.Test.YtlnpfggcmjljbaaLift
namespace Go.Proofs.Ytlnpfggcmjljbaa.lawPeriodBetween
open Go.ChangeShapes Go.WideShapes Go.ChangeAt Go.RowKit

set_option maxHeartbeats 2000000 in
theorem walk (a b c d : Int) (w : World) : Calls Try.prog 6 #[.agg #[.int .i64 a, .int .i64 b], .agg #[.int .i64 c, .int .i64 d]] w (Ret (.bool true) w) := by
  refine hide_ret fun v H => ?_
  have S1 := Lib.hid (fun w => sPeriodBetween_c a b c d w)
  have S2 := Lib.hid (fun w => PeriodBetween_c a b c d w)
  generalize perI a b c d = s at *
  obtain ⟨s1, s2, s3⟩ := s
  dsimp only at S1 S2
  go_enter Try.func6, Try.ntmps6
  go_wp2_with fail
  go_region_held3 (fun x => x.cell? ⟨w.heap.size, 0, none⟩ = some (.int .i64 a) ∧ x.cell? ⟨w.heap.size, 1, none⟩ = some (.int .i64 b) ∧ x.cell? ⟨w.heap.size + 1, 0, none⟩ = some (.int .i64 c) ∧ x.cell? ⟨w.heap.size + 1, 1, none⟩ = some (.int .i64 d)) (simp [go_sem, *]) (first | (go_at_call 29; refine (toMinimum_c _ _ _).mono ?_; rintro ee ww ⟨rfl, _, rfl⟩) | (go_at_call 28; refine (S1.out _).mono ?_; rintro e w' ⟨rfl, _, rfl⟩))
  all_goals go_wp2_with fail
  all_goals go_region_held3 (fun x => x.cell? ⟨w.heap.size, 0, none⟩ = some (.int .i64 a) ∧ x.cell? ⟨w.heap.size, 1, none⟩ = some (.int .i64 b) ∧ x.cell? ⟨w.heap.size + 1, 0, none⟩ = some (.int .i64 c) ∧ x.cell? ⟨w.heap.size + 1, 1, none⟩ = some (.int .i64 d)) (simp [go_sem, *]) (first | (go_at_call 29; refine (toMinimum_c _ _ _).mono ?_; rintro ee ww ⟨rfl, _, rfl⟩) | (go_at_call 23; refine (S2.out _).mono ?_; rintro e w' ⟨rfl, _, rfl⟩))
  all_goals go_wp2_with (first | (go_at_call 30; refine (eqFraction_c _ _ _ _ _).mono ?_; rintro ee ww ⟨rfl, _, rfl⟩))
  all_goals go_ret
  all_goals refine Ret.mk ?_ (?_ : Bel _ _)
  all_goals first | exact H.out | (repeat (first | exact Bel.refl _ | apply Bel.ext | apply Bel.alloc | apply Bel.drew | refine Bel.set ?_ (by first | (simp; done) | (simp [go_sem]; done) | omega) _))

set_option maxRecDepth 100000 in
theorem lifted (os : Os) (started : os.Started) (H : Type) (enc : TypeId × Value → H) :
    ReturnsInHanded {} Try.checked os 6 .any (Rows.fnExactPeriodBetweenSpec.pre6 enc Try.prog Try.f6 Rows.fnExactPeriodBetweenRow.domain false) (Rows.fnExactPeriodBetweenSpec.post enc Try.prog Try.f6 false true false false) := by
  refine returnsInHanded_of_change (C := Try.checked) own started (by kernel_rfl) Try.func6
    (ChangeSpec.witness6 (enc := enc) (C := Try.checked) false ⟨#[], #[.agg #[.int .i64 0, .int .i64 0], .agg #[.int .i64 0, .int .i64 0]], []⟩ 8 (by kernel_rfl) (by kernel_rfl) (by kernel_rfl) (by kernel_rfl)) ?_
  intro W base args ds gs before hval0 hW _ _
  have hval : ∀ (j : Nat) t v, Try.f6.params[j]? = some t → args[j]? = some v → Value.okWide Try.prog W .any base t v := hval0
  have hW' := hW
  obtain ⟨p, q, hA0, hV, rfl, hfz, hnd⟩ := hW
  have hA : DataW.TrodAll enc Try.prog W 0 (fun _ => true) true Try.f6.params.toList args.toList ds p := hA0
  have hlt : ∀ x ∈ p, x.block < W.heap.size := fun x hx => hW'.lt x (by simp [hx])
  rw [Try.params6] at hA hval
  have hK := hA
  obtain ⟨v0, vs0, d0, ds0, p0, q0, hargs, rfl, rfl, h0, r0⟩ := trodAll_cons hA
  obtain ⟨v1, vs1, d1, ds1, p1, q1, rfl, rfl, rfl, h1, r1⟩ := trodAll_cons r0
  obtain ⟨rfl, rfl, rfl⟩ := trodAll_nil r1
  obtain rfl : args = #[v0, v1] := by cases args; simp_all
  obtain ⟨rfl, rfl⟩ := trodVars_none hV
  obtain ⟨c00, c01, y00, y01, m0, rfl, -, -, hy00, hy01⟩ := Go.Joins.open_agg2 Try.underlying45 (by kernel_rfl) (by kernel_rfl) (hval 0 45 v0 rfl rfl) h0
  obtain ⟨x00, e00, -, w00⟩ := DataW.trod_int Try.underlying2 hy00
  obtain rfl : c00 = .int .i64 x00 := by simpa using e00
  obtain ⟨x01, e01, -, w01⟩ := DataW.trod_int Try.underlying2 hy01
  obtain rfl : c01 = .int .i64 x01 := by simpa using e01
  obtain ⟨c10, c11, y10, y11, m1, rfl, -, -, hy10, hy11⟩ := Go.Joins.open_agg2 Try.underlying45 (by kernel_rfl) (by kernel_rfl) (hval 1 45 v1 rfl rfl) h1
  obtain ⟨x10, e10, -, w10⟩ := DataW.trod_int Try.underlying2 hy10
  obtain rfl : c10 = .int .i64 x10 := by simpa using e10
  obtain ⟨x11, e11, -, w11⟩ := DataW.trod_int Try.underlying2 hy11
  obtain rfl : c11 = .int .i64 x11 := by simpa using e11
  refine (walk x00 x01 x10 x11 W).mono fun e W' ⟨he, g, hg⟩ => ?_
  subst he
  have hb : Below W.heap.size W W' := by rw [hg]; exact ext_below W g
  have hARG := trodAll_below hb _ (by kernel_rfl) hlt hK
  exact ⟨_, rfl, [d0, d1], [], _, [], p0 ++ (p1 ++ ([])), [], hW', trodAll_cons_mk (shut_bool Try.underlying4 _) trodAll_mk0, hARG, rfl, hb.frame _, fun h => by cases h⟩

theorem over : Rows.fnExactPeriodBetweenRow.holds Try.pinned (OpenSpec.ofChange Rows.fnExactPeriodBetweenSpec) :=
  OpenClaim.holds_of_wide 6 Try.f6 rfl rfl rfl rfl rfl rfl rfl ⟨rfl, rfl, rfl, rfl, rfl⟩ rfl rfl rfl rfl rfl (by kernel_rfl) Try.func6 (by kernel_rfl)
    (of_decide_eq_true (by kernel_rfl)) (by unfold Func.isWrapper; first | (rw [if_pos (by decide +kernel)]; kernel_rfl) | (rw [if_neg (by decide +kernel)]; exact ⟨rfl, rfl⟩))
    (fun os started H enc _ => lifted os started H enc)

theorem proved : Rows.FnExactPeriodBetweenSaid := over
end Go.Proofs.Ytlnpfggcmjljbaa.lawPeriodBetween
