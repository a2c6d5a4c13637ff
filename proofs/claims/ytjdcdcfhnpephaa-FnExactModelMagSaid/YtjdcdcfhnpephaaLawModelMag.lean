/- 'FnExactModelMag' returns true, whatever the model, the ephemeris, the magnitude and the time; no condition. -/
import Derived.Test.YtjdcdcfhnpephaaModel2
import Derived.Test.YtjdcdcfhnpephaaLift
namespace Go.Proofs.Ytjdcdcfhnpephaa.lawModelMag
open Go.ChangeShapes Go.WideShapes Go.ChangeAt Go.RowKit

set_option maxHeartbeats 1000000 in
theorem walk (a b c e p m t : Int) (w : World) : Calls Try.prog 8 #[.agg #[.int .i64 a, .int .i64 b, .int .i64 c], .agg #[.int .i64 e, .int .i64 p], .int .i64 m, .int .i64 t] w (Ret (.bool true) w) := by
  refine hide_ret fun v H => ?_
  go_enter Try.func8, Try.ntmps8
  go_wp2_with (first | (go_at_call 13; refine (toModel_c _ _ _ _).mono ?_; rintro e w' ⟨rfl, _, rfl⟩) | (go_at_call 20; refine (toEphemeris_c _ _ _).mono ?_; rintro e w' ⟨rfl, _, rfl⟩) | (go_at_call 29; refine (ModelMag_c _ _ _ _ _ _ _ _).mono ?_; rintro e w' ⟨rfl, _, rfl⟩) | (go_at_call 28; refine (sModelMag_c _ _ _ _ _ _ _ _).mono ?_; rintro e w' ⟨rfl, _, rfl⟩))
  all_goals (try ((refine region_ext (by kernel_rfl) (by kernel_rfl) ?_; (repeat (go_big_quiet_step (first | (go_at_call 13; exact Calls.in_ret (toModel_c _ _ _ _)) | (go_at_call 20; exact Calls.in_ret (toEphemeris_c _ _ _)) | (go_at_call 29; exact Calls.in_ret (ModelMag_c _ _ _ _ _ _ _ _)) | (go_at_call 28; exact Calls.in_ret (sModelMag_c _ _ _ _ _ _ _ _))))); refine wpQuiet_nil ?_; rintro _ ⟨_, rfl⟩); go_wp2_with (first | (go_at_call 13; refine (toModel_c _ _ _ _).mono ?_; rintro e w' ⟨rfl, _, rfl⟩) | (go_at_call 20; refine (toEphemeris_c _ _ _).mono ?_; rintro e w' ⟨rfl, _, rfl⟩) | (go_at_call 29; refine (ModelMag_c _ _ _ _ _ _ _ _).mono ?_; rintro e w' ⟨rfl, _, rfl⟩) | (go_at_call 28; refine (sModelMag_c _ _ _ _ _ _ _ _).mono ?_; rintro e w' ⟨rfl, _, rfl⟩))))
  all_goals (try ((refine region_ext (by kernel_rfl) (by kernel_rfl) ?_; (repeat (go_big_quiet_step (first | (go_at_call 13; exact Calls.in_ret (toModel_c _ _ _ _)) | (go_at_call 20; exact Calls.in_ret (toEphemeris_c _ _ _)) | (go_at_call 29; exact Calls.in_ret (ModelMag_c _ _ _ _ _ _ _ _)) | (go_at_call 28; exact Calls.in_ret (sModelMag_c _ _ _ _ _ _ _ _))))); refine wpQuiet_nil ?_; rintro _ ⟨_, rfl⟩); go_wp2_with (first | (go_at_call 13; refine (toModel_c _ _ _ _).mono ?_; rintro e w' ⟨rfl, _, rfl⟩) | (go_at_call 20; refine (toEphemeris_c _ _ _).mono ?_; rintro e w' ⟨rfl, _, rfl⟩) | (go_at_call 29; refine (ModelMag_c _ _ _ _ _ _ _ _).mono ?_; rintro e w' ⟨rfl, _, rfl⟩) | (go_at_call 28; refine (sModelMag_c _ _ _ _ _ _ _ _).mono ?_; rintro e w' ⟨rfl, _, rfl⟩))))
  all_goals (try ((refine region_ext (by kernel_rfl) (by kernel_rfl) ?_; (repeat (go_big_quiet_step (first | (go_at_call 13; exact Calls.in_ret (toModel_c _ _ _ _)) | (go_at_call 20; exact Calls.in_ret (toEphemeris_c _ _ _)) | (go_at_call 29; exact Calls.in_ret (ModelMag_c _ _ _ _ _ _ _ _)) | (go_at_call 28; exact Calls.in_ret (sModelMag_c _ _ _ _ _ _ _ _))))); refine wpQuiet_nil ?_; rintro _ ⟨_, rfl⟩); go_wp2_with (first | (go_at_call 13; refine (toModel_c _ _ _ _).mono ?_; rintro e w' ⟨rfl, _, rfl⟩) | (go_at_call 20; refine (toEphemeris_c _ _ _).mono ?_; rintro e w' ⟨rfl, _, rfl⟩) | (go_at_call 29; refine (ModelMag_c _ _ _ _ _ _ _ _).mono ?_; rintro e w' ⟨rfl, _, rfl⟩) | (go_at_call 28; refine (sModelMag_c _ _ _ _ _ _ _ _).mono ?_; rintro e w' ⟨rfl, _, rfl⟩))))
  go_ret
  refine Ret.mk ?_ (?_ : Bel _ _)
  · exact H.out
  · (repeat (first | exact Bel.refl _ | apply Bel.ext | apply Bel.alloc | apply Bel.drew | refine Bel.set ?_ (by first | (simp; done) | (simp [go_sem]; done) | omega) _))

set_option maxRecDepth 100000 in
theorem lifted (os : Os) (started : os.Started) (H : Type) (enc : TypeId × Value → H) :
    ReturnsInHanded {} Try.checked os 8 .any (Rows.fnExactModelMagSpec.pre6 enc Try.prog Try.f8 Rows.fnExactModelMagRow.domain false) (Rows.fnExactModelMagSpec.post enc Try.prog Try.f8 false true false false) := by
  refine returnsInHanded_of_change (C := Try.checked) own started (by kernel_rfl) Try.func8
    (ChangeSpec.witness6 (enc := enc) (C := Try.checked) false ⟨#[], #[.agg #[.int .i64 0, .int .i64 0, .int .i64 0], .agg #[.int .i64 0, .int .i64 0], .int .i64 0, .int .i64 0], []⟩ 8 (by kernel_rfl) (by kernel_rfl) (by kernel_rfl) (by kernel_rfl)) ?_
  intro W base args ds gs before hval0 hW _ _
  have hval : ∀ (j : Nat) t v, Try.f8.params[j]? = some t → args[j]? = some v → Value.okWide Try.prog W .any base t v := hval0
  have hW' := hW
  obtain ⟨p, q, hA0, hV, rfl, hfz, hnd⟩ := hW
  have hA : DataW.TrodAll enc Try.prog W 0 (fun _ => true) true Try.f8.params.toList args.toList ds p := hA0
  have hlt : ∀ x ∈ p, x.block < W.heap.size := fun x hx => hW'.lt x (by simp [hx])
  rw [Try.params8] at hA hval
  have hK := hA
  obtain ⟨v0, vs0, d0, ds0, p0, q0, hargs, rfl, rfl, h0, r0⟩ := trodAll_cons hA
  obtain ⟨v1, vs1, d1, ds1, p1, q1, rfl, rfl, rfl, h1, r1⟩ := trodAll_cons r0
  obtain ⟨v2, vs2, d2, ds2, p2, q2, rfl, rfl, rfl, h2, r2⟩ := trodAll_cons r1
  obtain ⟨v3, vs3, d3, ds3, p3, q3, rfl, rfl, rfl, h3, r3⟩ := trodAll_cons r2
  obtain ⟨rfl, rfl, rfl⟩ := trodAll_nil r3
  obtain rfl : args = #[v0, v1, v2, v3] := by cases args; simp_all
  obtain ⟨rfl, rfl⟩ := trodVars_none hV
  obtain ⟨c00, c01, c02, y00, y01, y02, m0, rfl, -, -, hy00, hy01, hy02⟩ := Go.Joins.open_agg3 Try.underlying23 (by kernel_rfl) (by kernel_rfl) (hval 0 23 v0 rfl rfl) h0
  obtain ⟨x00, e00, -, w00⟩ := DataW.trod_int Try.underlying2 hy00
  obtain rfl : c00 = .int .i64 x00 := by simpa using e00
  obtain ⟨x01, e01, -, w01⟩ := DataW.trod_int Try.underlying2 hy01
  obtain rfl : c01 = .int .i64 x01 := by simpa using e01
  obtain ⟨x02, e02, -, w02⟩ := DataW.trod_int Try.underlying2 hy02
  obtain rfl : c02 = .int .i64 x02 := by simpa using e02
  obtain ⟨c10, c11, y10, y11, m1, rfl, -, -, hy10, hy11⟩ := Go.Joins.open_agg2 Try.underlying33 (by kernel_rfl) (by kernel_rfl) (hval 1 33 v1 rfl rfl) h1
  obtain ⟨x10, e10, -, w10⟩ := DataW.trod_int Try.underlying2 hy10
  obtain rfl : c10 = .int .i64 x10 := by simpa using e10
  obtain ⟨x11, e11, -, w11⟩ := DataW.trod_int Try.underlying2 hy11
  obtain rfl : c11 = .int .i64 x11 := by simpa using e11
  obtain ⟨x2, rfl, -, -, w2⟩ := open_int Try.underlying2 (hval 2 2 v2 rfl rfl) h2
  obtain ⟨x3, rfl, -, -, w3⟩ := open_int Try.underlying2 (hval 3 2 v3 rfl rfl) h3
  refine (walk x00 x01 x02 x10 x11 x2 x3 W).mono fun e W' ⟨he, g, hg⟩ => ?_
  subst he
  have hb : Below W.heap.size W W' := by rw [hg]; exact ext_below W g
  have hARG := trodAll_below hb _ (by kernel_rfl) hlt hK
  exact ⟨_, rfl, [d0, d1, d2, d3], [], _, [], p0 ++ (p1 ++ (p2 ++ (p3 ++ ([])))), [], hW', trodAll_cons_mk (shut_bool Try.underlying4 _) trodAll_mk0, hARG, rfl, hb.frame _, fun h => by cases h⟩

theorem over : Rows.fnExactModelMagRow.holds Try.pinned (OpenSpec.ofChange Rows.fnExactModelMagSpec) :=
  OpenClaim.holds_of_wide 8 Try.f8 rfl rfl rfl rfl rfl rfl rfl ⟨rfl, rfl, rfl, rfl, rfl⟩ rfl rfl rfl rfl rfl (by kernel_rfl) Try.func8 (by kernel_rfl)
    (of_decide_eq_true (by kernel_rfl)) (by unfold Func.isWrapper; first | (rw [if_pos (by decide +kernel)]; kernel_rfl) | (rw [if_neg (by decide +kernel)]; exact ⟨rfl, rfl⟩))
    (fun os started H enc _ => lifted os started H enc)

theorem proved : Rows.FnExactModelMagSaid := over
end Go.Proofs.Ytjdcdcfhnpephaa.lawModelMag
