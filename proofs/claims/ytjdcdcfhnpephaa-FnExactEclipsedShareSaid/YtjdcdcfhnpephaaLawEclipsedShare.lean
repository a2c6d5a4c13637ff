/- 'FnExactEclipsedShare' returns true, whatever the model and the ephemeris; no condition. -/
import Derived.Test.YtjdcdcfhnpephaaModel2
import Derived.Test.YtjdcdcfhnpephaaLift
namespace Go.Proofs.Ytjdcdcfhnpephaa.lawEclipsedShare
open Go.ChangeShapes Go.WideShapes Go.ChangeAt Go.RowKit

set_option maxHeartbeats 2000000 in
theorem walk (a b c e p : Int) (w : World) : Calls Try.prog 7 #[.agg #[.int .i64 a, .int .i64 b, .int .i64 c], .agg #[.int .i64 e, .int .i64 p]] w (Ret (.bool true) w) := by
  refine hide_ret fun v H => ?_
  generalize hs : shareI a b c e p = s
  obtain ⟨s1, s2, s3⟩ := s
  have HS := Lib.hid hs
  clear hs
  have arm1 : ∀ w, Calls Try.prog 25 #[.agg #[.int .i64 a, .int .i64 b, .int .i64 c], .agg #[.int .i64 e, .int .i64 p]] w (Ret (.tuple #[.agg #[.int .i64 s1, .int .i64 s2], .int .i64 s3]) w) := fun w => by
    have := sEclipsedShare_c a b c e p w; rw [HS.out] at this; exact this
  have arm2 : ∀ w, Calls Try.prog 26 #[.agg #[.int .i64 a, .int .i64 b, .int .i64 c], .agg #[.int .i64 e, .int .i64 p]] w (Ret (.tuple #[.agg #[.int .i64 s1, .int .i64 s2], .int .i64 s3]) w) := fun w => by
    have := EclipsedShare_c a b c e p w; rw [HS.out] at this; exact this
  have A1 := Lib.hid arm1
  have A2 := Lib.hid arm2
  clear arm1 arm2
  go_enter Try.func7, Try.ntmps7
  go_wp2_with fail
  go_region_held3 (fun x => x.cell? ⟨w.heap.size, 0, none⟩ = some (.int .i64 a) ∧ x.cell? ⟨w.heap.size, 1, none⟩ = some (.int .i64 b) ∧ x.cell? ⟨w.heap.size, 2, none⟩ = some (.int .i64 c) ∧ x.cell? ⟨w.heap.size + 1, 0, none⟩ = some (.int .i64 e) ∧ x.cell? ⟨w.heap.size + 1, 1, none⟩ = some (.int .i64 p)) (simp [go_sem, *]) (first | (go_at_call 13; refine (toModel_c _ _ _ _).mono ?_; rintro e w' ⟨rfl, _, rfl⟩) | (go_at_call 20; refine (toEphemeris_c _ _ _).mono ?_; rintro e w' ⟨rfl, _, rfl⟩) | (go_at_call 25; refine (A1.out _).mono ?_; rintro e w' ⟨rfl, _, rfl⟩))
  all_goals go_wp2_with fail
  all_goals go_region_held3 (fun x => x.cell? ⟨w.heap.size, 0, none⟩ = some (.int .i64 a) ∧ x.cell? ⟨w.heap.size, 1, none⟩ = some (.int .i64 b) ∧ x.cell? ⟨w.heap.size, 2, none⟩ = some (.int .i64 c) ∧ x.cell? ⟨w.heap.size + 1, 0, none⟩ = some (.int .i64 e) ∧ x.cell? ⟨w.heap.size + 1, 1, none⟩ = some (.int .i64 p)) (simp [go_sem, *]) (first | (go_at_call 13; refine (toModel_c _ _ _ _).mono ?_; rintro e w' ⟨rfl, _, rfl⟩) | (go_at_call 20; refine (toEphemeris_c _ _ _).mono ?_; rintro e w' ⟨rfl, _, rfl⟩) | (go_at_call 26; refine (A2.out _).mono ?_; rintro e w' ⟨rfl, _, rfl⟩))
  go_goals
  all_goals go_wp2_with (first | (go_at_call 27; refine (eqFraction_c _ _ _ _ _).mono ?_; rintro e w' ⟨rfl, _, rfl⟩))
  go_ways
  all_goals go_ret
  all_goals refine Ret.mk ?_ (?_ : Bel _ _)
  all_goals first | exact H.out | (repeat (first | exact Bel.refl _ | apply Bel.ext | apply Bel.alloc | apply Bel.drew | refine Bel.set ?_ (by first | (simp; done) | (simp [go_sem]; done) | omega) _))

set_option maxRecDepth 100000 in
theorem lifted (os : Os) (started : os.Started) (H : Type) (enc : TypeId × Value → H) :
    ReturnsInHanded {} Try.checked os 7 .any (Rows.fnExactEclipsedShareSpec.pre6 enc Try.prog Try.f7 Rows.fnExactEclipsedShareRow.domain false) (Rows.fnExactEclipsedShareSpec.post enc Try.prog Try.f7 false true false false) := by
  refine returnsInHanded_of_change (C := Try.checked) own started (by kernel_rfl) Try.func7
    (ChangeSpec.witness6 (enc := enc) (C := Try.checked) false ⟨#[], #[.agg #[.int .i64 0, .int .i64 0, .int .i64 0], .agg #[.int .i64 0, .int .i64 0]], []⟩ 8 (by kernel_rfl) (by kernel_rfl) (by kernel_rfl) (by kernel_rfl)) ?_
  intro W base args ds gs before hval0 hW _ _
  have hval : ∀ (j : Nat) t v, Try.f7.params[j]? = some t → args[j]? = some v → Value.okWide Try.prog W .any base t v := hval0
  have hW' := hW
  obtain ⟨p, q, hA0, hV, rfl, hfz, hnd⟩ := hW
  have hA : DataW.TrodAll enc Try.prog W 0 (fun _ => true) true Try.f7.params.toList args.toList ds p := hA0
  have hlt : ∀ x ∈ p, x.block < W.heap.size := fun x hx => hW'.lt x (by simp [hx])
  rw [Try.params7] at hA hval
  have hK := hA
  obtain ⟨v0, vs0, d0, ds0, p0, q0, hargs, rfl, rfl, h0, r0⟩ := trodAll_cons hA
  obtain ⟨v1, vs1, d1, ds1, p1, q1, rfl, rfl, rfl, h1, r1⟩ := trodAll_cons r0
  obtain ⟨rfl, rfl, rfl⟩ := trodAll_nil r1
  obtain rfl : args = #[v0, v1] := by cases args; simp_all
  obtain ⟨rfl, rfl⟩ := trodVars_none hV
  obtain ⟨c00, c01, c02, y00, y01, y02, m0, rfl, -, -, hy00, hy01, hy02⟩ := Go.Joins.open_agg3 Try.underlying23 (by kernel_rfl) (by kernel_rfl) (hval 0 23 v0 rfl rfl) h0
  obtain ⟨x00, e00, -, w00⟩ := DataW.trod_int Try.underlying2 hy00
  obtain rfl : c00 = .int .i64 x00 := by simpa using e00
  obtain ⟨x01, e01, -, w01⟩ := DataW.trod_int Try.underlying2 hy01
  obtain rfl : c01 = .int .i64 x01 := by simpa using e01
  obtain ⟨x02, e02, -, w02⟩ := DataW.trod_int Try.underlying2 hy02
  obtain rfl : c02 = .int .i64 x02 := by simpa using e02
  obtain ⟨c10, c11, y10, y11, m1, rfl, -, -, hy10, hy11⟩ := Go.Joins.open_agg2 Try.underlying33 (by kernel_rfl) (by kernel_rfl) (hval 1 33 v1 rfl rfl) h1
  obtain ⟨x10, e10, -, w10⟩ := DataW.trod_int Try.underlying2 hy10
  obtain rfl : c10 = .int .i64 x10 := by simpa using e10
  obtain ⟨x11, e11, -, w11⟩ := DataW.trod_int Try.underlying2 hy11
  obtain rfl : c11 = .int .i64 x11 := by simpa using e11
  refine (walk x00 x01 x02 x10 x11 W).mono fun e W' ⟨he, g, hg⟩ => ?_
  subst he
  have hb : Below W.heap.size W W' := by rw [hg]; exact ext_below W g
  have hARG := trodAll_below hb _ (by kernel_rfl) hlt hK
  exact ⟨_, rfl, [d0, d1], [], _, [], p0 ++ (p1 ++ ([])), [], hW', trodAll_cons_mk (shut_bool Try.underlying4 _) trodAll_mk0, hARG, rfl, hb.frame _, fun h => by cases h⟩

theorem over : Rows.fnExactEclipsedShareRow.holds Try.pinned (OpenSpec.ofChange Rows.fnExactEclipsedShareSpec) :=
  OpenClaim.holds_of_wide 7 Try.f7 rfl rfl rfl rfl rfl rfl rfl ⟨rfl, rfl, rfl, rfl, rfl⟩ rfl rfl rfl rfl rfl (by kernel_rfl) Try.func7 (by kernel_rfl)
    (of_decide_eq_true (by kernel_rfl)) (by unfold Func.isWrapper; first | (rw [if_pos (by decide +kernel)]; kernel_rfl) | (rw [if_neg (by decide +kernel)]; exact ⟨rfl, rfl⟩))
    (fun os started H enc _ => lifted os started H enc)

theorem proved : Rows.FnExactEclipsedShareSaid := over
end Go.Proofs.Ytjdcdcfhnpephaa.lawEclipsedShare
