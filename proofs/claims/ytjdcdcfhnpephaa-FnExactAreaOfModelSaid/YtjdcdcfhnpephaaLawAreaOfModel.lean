/- 'FnExactAreaOfModel' returns true, whatever the model; no condition. -/
import Derived.Test.YtjdcdcfhnpephaaModel
import Derived.Test.YtjdcdcfhnpephaaLift
namespace Go.Proofs.Ytjdcdcfhnpephaa.lawAreaOfModel
open Go.ChangeShapes Go.WideShapes Go.ChangeAt Go.RowKit

set_option maxHeartbeats 1000000 in
theorem walk (a b c : Int) (w : World) : Calls Try.prog 4 #[.agg #[.int .i64 a, .int .i64 b, .int .i64 c]] w (Ret (.bool true) w) := by
  refine hide_ret fun v H => ?_
  go_enter Try.func4, Try.ntmps4
  go_wp2_with (first | (go_at_call 13; refine (toModel_c _ _ _ _).mono ?_; rintro e w' ⟨rfl, _, rfl⟩) | (go_at_call 16; refine (AreaOfModel_c _ _ _ _).mono ?_; rintro e w' ⟨rfl, _, rfl⟩) | (go_at_call 15; refine (sAreaOfModel_c _ _ _ _).mono ?_; rintro e w' ⟨rfl, _, rfl⟩))
  all_goals (try ((refine region_ext (by kernel_rfl) (by kernel_rfl) ?_; (repeat (go_big_quiet_step (first | (go_at_call 13; exact Calls.in_ret (toModel_c _ _ _ _)) | (go_at_call 16; exact Calls.in_ret (AreaOfModel_c _ _ _ _)) | (go_at_call 15; exact Calls.in_ret (sAreaOfModel_c _ _ _ _))))); refine wpQuiet_nil ?_; rintro _ ⟨_, rfl⟩); go_wp2_with (first | (go_at_call 13; refine (toModel_c _ _ _ _).mono ?_; rintro e w' ⟨rfl, _, rfl⟩) | (go_at_call 16; refine (AreaOfModel_c _ _ _ _).mono ?_; rintro e w' ⟨rfl, _, rfl⟩) | (go_at_call 15; refine (sAreaOfModel_c _ _ _ _).mono ?_; rintro e w' ⟨rfl, _, rfl⟩))))
  all_goals (try ((refine region_ext (by kernel_rfl) (by kernel_rfl) ?_; (repeat (go_big_quiet_step (first | (go_at_call 13; exact Calls.in_ret (toModel_c _ _ _ _)) | (go_at_call 16; exact Calls.in_ret (AreaOfModel_c _ _ _ _)) | (go_at_call 15; exact Calls.in_ret (sAreaOfModel_c _ _ _ _))))); refine wpQuiet_nil ?_; rintro _ ⟨_, rfl⟩); go_wp2_with (first | (go_at_call 13; refine (toModel_c _ _ _ _).mono ?_; rintro e w' ⟨rfl, _, rfl⟩) | (go_at_call 16; refine (AreaOfModel_c _ _ _ _).mono ?_; rintro e w' ⟨rfl, _, rfl⟩) | (go_at_call 15; refine (sAreaOfModel_c _ _ _ _).mono ?_; rintro e w' ⟨rfl, _, rfl⟩))))
  all_goals (try ((refine region_ext (by kernel_rfl) (by kernel_rfl) ?_; (repeat (go_big_quiet_step (first | (go_at_call 13; exact Calls.in_ret (toModel_c _ _ _ _)) | (go_at_call 16; exact Calls.in_ret (AreaOfModel_c _ _ _ _)) | (go_at_call 15; exact Calls.in_ret (sAreaOfModel_c _ _ _ _))))); refine wpQuiet_nil ?_; rintro _ ⟨_, rfl⟩); go_wp2_with (first | (go_at_call 13; refine (toModel_c _ _ _ _).mono ?_; rintro e w' ⟨rfl, _, rfl⟩) | (go_at_call 16; refine (AreaOfModel_c _ _ _ _).mono ?_; rintro e w' ⟨rfl, _, rfl⟩) | (go_at_call 15; refine (sAreaOfModel_c _ _ _ _).mono ?_; rintro e w' ⟨rfl, _, rfl⟩))))
  go_ret
  refine Ret.mk ?_ (?_ : Bel _ _)
  · exact H.out
  · (repeat (first | exact Bel.refl _ | apply Bel.ext | apply Bel.alloc | apply Bel.drew | refine Bel.set ?_ (by first | (simp; done) | (simp [go_sem]; done) | omega) _))

set_option maxRecDepth 100000 in
theorem lifted (os : Os) (started : os.Started) (H : Type) (enc : TypeId × Value → H) :
    ReturnsInHanded {} Try.checked os 4 .any (Rows.fnExactAreaOfModelSpec.pre6 enc Try.prog Try.f4 Rows.fnExactAreaOfModelRow.domain false) (Rows.fnExactAreaOfModelSpec.post enc Try.prog Try.f4 false true false false) := by
  refine returnsInHanded_of_change (C := Try.checked) own started (by kernel_rfl) Try.func4
    (ChangeSpec.witness6 (enc := enc) (C := Try.checked) false ⟨#[], #[.agg #[.int .i64 0, .int .i64 0, .int .i64 0]], []⟩ 8 (by kernel_rfl) (by kernel_rfl) (by kernel_rfl) (by kernel_rfl)) ?_
  intro W base args ds gs before hval0 hW _ _
  have hval : ∀ (j : Nat) t v, Try.f4.params[j]? = some t → args[j]? = some v → Value.okWide Try.prog W .any base t v := hval0
  have hW' := hW
  obtain ⟨p, q, hA0, hV, rfl, hfz, hnd⟩ := hW
  have hA : DataW.TrodAll enc Try.prog W 0 (fun _ => true) true Try.f4.params.toList args.toList ds p := hA0
  have hlt : ∀ x ∈ p, x.block < W.heap.size := fun x hx => hW'.lt x (by simp [hx])
  rw [Try.params4] at hA hval
  have hK := hA
  obtain ⟨v0, vs0, d0, ds0, p0, q0, hargs, rfl, rfl, h0, r0⟩ := trodAll_cons hA
  obtain ⟨rfl, rfl, rfl⟩ := trodAll_nil r0
  obtain rfl : args = #[v0] := by cases args; simp_all
  obtain ⟨rfl, rfl⟩ := trodVars_none hV
  obtain ⟨c00, c01, c02, y00, y01, y02, m0, rfl, -, -, hy00, hy01, hy02⟩ := Go.Joins.open_agg3 Try.underlying23 (by kernel_rfl) (by kernel_rfl) (hval 0 23 v0 rfl rfl) h0
  obtain ⟨x00, e00, -, w00⟩ := DataW.trod_int Try.underlying2 hy00
  obtain rfl : c00 = .int .i64 x00 := by simpa using e00
  obtain ⟨x01, e01, -, w01⟩ := DataW.trod_int Try.underlying2 hy01
  obtain rfl : c01 = .int .i64 x01 := by simpa using e01
  obtain ⟨x02, e02, -, w02⟩ := DataW.trod_int Try.underlying2 hy02
  obtain rfl : c02 = .int .i64 x02 := by simpa using e02
  refine (walk x00 x01 x02 W).mono fun e W' ⟨he, g, hg⟩ => ?_
  subst he
  have hb : Below W.heap.size W W' := by rw [hg]; exact ext_below W g
  have hARG := trodAll_below hb _ (by kernel_rfl) hlt hK
  exact ⟨_, rfl, [d0], [], _, [], p0 ++ ([]), [], hW', trodAll_cons_mk (shut_bool Try.underlying4 _) trodAll_mk0, hARG, rfl, hb.frame _, fun h => by cases h⟩

theorem over : Rows.fnExactAreaOfModelRow.holds Try.pinned (OpenSpec.ofChange Rows.fnExactAreaOfModelSpec) :=
  OpenClaim.holds_of_wide 4 Try.f4 rfl rfl rfl rfl rfl rfl rfl ⟨rfl, rfl, rfl, rfl, rfl⟩ rfl rfl rfl rfl rfl (by kernel_rfl) Try.func4 (by kernel_rfl)
    (of_decide_eq_true (by kernel_rfl)) (by unfold Func.isWrapper; first | (rw [if_pos (by decide +kernel)]; kernel_rfl) | (rw [if_neg (by decide +kernel)]; exact ⟨rfl, rfl⟩))
    (fun os started H enc _ => lifted os started H enc)

theorem proved : Rows.FnExactAreaOfModelSaid := over
end Go.Proofs.Ytjdcdcfhnpephaa.lawAreaOfModel
