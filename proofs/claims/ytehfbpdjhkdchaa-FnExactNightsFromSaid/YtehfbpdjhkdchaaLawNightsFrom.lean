/- 'FnExactNightsFrom' returns true, whatever the days; no condition. -/
import Derived.Test.YtehfbpdjhkdchaaNights
import Derived.Test.YtehfbpdjhkdchaaMem
import Derived.Test.YtehfbpdjhkdchaaLift
namespace Go.Proofs.Ytehfbpdjhkdchaa.lawNightsFrom
open Go.ChangeShapes Go.WideShapes Go.ChangeAt Go.RowKit

set_option maxHeartbeats 4000000 in
theorem walk (a b l h : Int) (w : World) : Calls Try.prog 6 #[.int .i64 a, .int .i64 b, .int .i64 l, .int .i64 h] w (Ret (.bool true) w) := by
  refine hide_ret fun v H => ?_
  have hlen := nightsI_len a b l h
  have S1 := Lib.hid (sNightsFrom_c a b l h)
  have S2 := Lib.hid (NightsFrom_c a b l h)
  generalize nightsI a b l h = s at *
  obtain ⟨ys, code⟩ := s
  dsimp only at hlen S1 S2
  have hcode : (code != code) = false := by simp
  have hM := mem_nil w
  go_enter Try.func6, Try.ntmps6
  go_wp2_with (first | (go_at_call 25; refine Calls.mono (mem_row hM ?_ (S1.out _)) ?_; (focus (repeat (first | exact Bel.refl _ | apply Bel.ext | apply Bel.alloc | apply Bel.drew))); rintro ee ww ⟨v, _, rfl, rfl, hM⟩; (try simp only [List.nil_append, List.cons_append, List.set_cons_zero, List.set_cons_succ] at hM)) | (go_at_call 26; refine Calls.mono (mem_row hM ?_ (S2.out _)) ?_; (focus (repeat (first | exact Bel.refl _ | apply Bel.ext | apply Bel.alloc | apply Bel.drew))); rintro ee ww ⟨v, _, rfl, rfl, hM⟩; (try simp only [List.nil_append, List.cons_append, List.set_cons_zero, List.set_cons_succ] at hM)) | (go_at_call 42; refine Calls.mono (mem_ret hM ?_ (toWindow_c _ _ _)) ?_; (focus (repeat (first | exact Bel.refl _ | apply Bel.ext | apply Bel.alloc | apply Bel.drew))); rintro ee ww ⟨rfl, _, rfl, hM⟩) | (go_at_call 14; refine Calls.mono (mem_ret hM ?_ (same_ret (szWindowS_c _ _ _ _ (by omega) (by omega) (by omega) _))) ?_; (focus (repeat (first | exact Bel.refl _ | apply Bel.ext | apply Bel.alloc | apply Bel.drew))); rintro ee ww ⟨rfl, _, rfl, hM⟩) | (go_at_call 18; refine Calls.mono (mem_ret hM ?_ (eqWindowS_c _ _ ys ys _ ?_ ?_)) ?_; (focus (repeat (first | exact Bel.refl _ | apply Bel.ext | apply Bel.alloc | apply Bel.drew))); (focus (first | exact Rd.bel (rd_of hM 0 rfl) (by (repeat (first | exact Bel.refl _ | apply Bel.ext | apply Bel.alloc | apply Bel.drew))) | exact Rd.bel (rd_of hM 1 rfl) (by (repeat (first | exact Bel.refl _ | apply Bel.ext | apply Bel.alloc | apply Bel.drew))) | exact Rd.bel (rd_of hM 2 rfl) (by (repeat (first | exact Bel.refl _ | apply Bel.ext | apply Bel.alloc | apply Bel.drew))) | exact Rd.bel (rd_of hM 3 rfl) (by (repeat (first | exact Bel.refl _ | apply Bel.ext | apply Bel.alloc | apply Bel.drew))) | exact Rd.bel (rd_of hM 4 rfl) (by (repeat (first | exact Bel.refl _ | apply Bel.ext | apply Bel.alloc | apply Bel.drew))) | exact Rd.bel (rd_of hM 5 rfl) (by (repeat (first | exact Bel.refl _ | apply Bel.ext | apply Bel.alloc | apply Bel.drew))) | exact Rd.bel (rd_of hM 6 rfl) (by (repeat (first | exact Bel.refl _ | apply Bel.ext | apply Bel.alloc | apply Bel.drew))) | exact Rd.bel (rd_of hM 7 rfl) (by (repeat (first | exact Bel.refl _ | apply Bel.ext | apply Bel.alloc | apply Bel.drew))) | exact Rd.bel (rd_of hM 8 rfl) (by (repeat (first | exact Bel.refl _ | apply Bel.ext | apply Bel.alloc | apply Bel.drew))) | exact Rd.bel (rd_of hM 9 rfl) (by (repeat (first | exact Bel.refl _ | apply Bel.ext | apply Bel.alloc | apply Bel.drew))) | exact Rd.bel (rd_of hM 10 rfl) (by (repeat (first | exact Bel.refl _ | apply Bel.ext | apply Bel.alloc | apply Bel.drew))) | exact Rd.bel (rd_of hM 11 rfl) (by (repeat (first | exact Bel.refl _ | apply Bel.ext | apply Bel.alloc | apply Bel.drew))))); (focus (first | exact Rd.bel (rd_of hM 0 rfl) (by (repeat (first | exact Bel.refl _ | apply Bel.ext | apply Bel.alloc | apply Bel.drew))) | exact Rd.bel (rd_of hM 1 rfl) (by (repeat (first | exact Bel.refl _ | apply Bel.ext | apply Bel.alloc | apply Bel.drew))) | exact Rd.bel (rd_of hM 2 rfl) (by (repeat (first | exact Bel.refl _ | apply Bel.ext | apply Bel.alloc | apply Bel.drew))) | exact Rd.bel (rd_of hM 3 rfl) (by (repeat (first | exact Bel.refl _ | apply Bel.ext | apply Bel.alloc | apply Bel.drew))) | exact Rd.bel (rd_of hM 4 rfl) (by (repeat (first | exact Bel.refl _ | apply Bel.ext | apply Bel.alloc | apply Bel.drew))) | exact Rd.bel (rd_of hM 5 rfl) (by (repeat (first | exact Bel.refl _ | apply Bel.ext | apply Bel.alloc | apply Bel.drew))) | exact Rd.bel (rd_of hM 6 rfl) (by (repeat (first | exact Bel.refl _ | apply Bel.ext | apply Bel.alloc | apply Bel.drew))) | exact Rd.bel (rd_of hM 7 rfl) (by (repeat (first | exact Bel.refl _ | apply Bel.ext | apply Bel.alloc | apply Bel.drew))) | exact Rd.bel (rd_of hM 8 rfl) (by (repeat (first | exact Bel.refl _ | apply Bel.ext | apply Bel.alloc | apply Bel.drew))) | exact Rd.bel (rd_of hM 9 rfl) (by (repeat (first | exact Bel.refl _ | apply Bel.ext | apply Bel.alloc | apply Bel.drew))) | exact Rd.bel (rd_of hM 10 rfl) (by (repeat (first | exact Bel.refl _ | apply Bel.ext | apply Bel.alloc | apply Bel.drew))) | exact Rd.bel (rd_of hM 11 rfl) (by (repeat (first | exact Bel.refl _ | apply Bel.ext | apply Bel.alloc | apply Bel.drew))))); rintro ee ww ⟨rfl, _, rfl, hM⟩) | (go_at_call 23; refine args_guard hM 1 rfl (by with_reducible rfl) ?_; refine Calls.mono (mem_mark hM ?_ 1 rfl (fun hM => markWindowS_c _ _ ys.length _ 1 _ _ hM.bel (hM.own 1 _ rfl) (by omega) (by omega) (by omega))) ?_; (focus (repeat (first | exact Bel.refl _ | apply Bel.ext | apply Bel.alloc | apply Bel.drew))); rintro ee ww ⟨rfl, _, rfl, hM⟩; (try simp only [List.nil_append, List.cons_append, List.set_cons_zero, List.set_cons_succ] at hM)) | (go_at_call 24; refine args_guard hM 1 rfl (by with_reducible rfl) ?_; refine Calls.mono (mem_ret hM ?_ (heldWindowS_c _ w.heap.size 44 ys.length 1 _ (own_bel (hM.own 1 _ rfl) ?_) (by omega) (by omega) (by omega))) ?_; (focus (repeat (first | exact Bel.refl _ | apply Bel.ext | apply Bel.alloc | apply Bel.drew))); (focus (repeat (first | exact Bel.refl _ | apply Bel.ext | apply Bel.alloc | apply Bel.drew))); rintro ee ww ⟨rfl, _, rfl, hM⟩))
  go_ret
  exact ⟨H.out ▸ rfl, ext_ex (by (repeat (first | exact Bel.refl _ | apply Bel.ext | apply Bel.alloc | apply Bel.drew | refine Bel.set ?_ (by first | (simp; done) | (simp [go_sem]; done) | omega) _)) : Bel w _)⟩

set_option maxRecDepth 100000 in
theorem lifted (os : Os) (started : os.Started) (H : Type) (enc : TypeId × Value → H) :
    ReturnsInHanded {} Try.checked os 6 .any (Rows.fnExactNightsFromSpec.pre6 enc Try.prog Try.f6 Rows.fnExactNightsFromRow.domain false) (Rows.fnExactNightsFromSpec.post enc Try.prog Try.f6 false true false false) := by
  refine returnsInHanded_of_change (C := Try.checked) own started (by kernel_rfl) Try.func6
    (ChangeSpec.witness6 (enc := enc) (C := Try.checked) false ⟨#[], #[.int .i64 0, .int .i64 0, .int .i64 0, .int .i64 0], []⟩ 8 (by kernel_rfl) (by kernel_rfl) (by kernel_rfl) (by kernel_rfl)) ?_
  intro W base args ds gs before hval0 hW _ _
  have hval : ∀ (j : Nat) t v, Try.f6.params[j]? = some t → args[j]? = some v → Value.okWide Try.prog W .any base t v := hval0
  have hW' := hW
  obtain ⟨p, q, hA0, hV, rfl, hfz, hnd⟩ := hW
  have hA : DataW.TrodAll enc Try.prog W 0 (fun _ => true) true Try.f6.params.toList args.toList ds p := hA0
  have hlt : ∀ x ∈ p, x.block < W.heap.size := fun x hx => hW'.lt x (by simp [hx])
  rw [Try.params6] at hA hval
  have hK := hA
  obtain ⟨v0, vs0, d0, ds0, p0, q0, hargs, rfl, rfl, h0, r0⟩ := trodAll_cons hA
  obtain ⟨v1, vs1, d1, ds1, p1, q1, rfl, rfl, rfl, h1, r1⟩ := trodAll_cons r0
  obtain ⟨v2, vs2, d2, ds2, p2, q2, rfl, rfl, rfl, h2, r2⟩ := trodAll_cons r1
  obtain ⟨v3, vs3, d3, ds3, p3, q3, rfl, rfl, rfl, h3, r3⟩ := trodAll_cons r2
  obtain ⟨rfl, rfl, rfl⟩ := trodAll_nil r3
  obtain rfl : args = #[v0, v1, v2, v3] := by cases args; simp_all
  obtain ⟨rfl, rfl⟩ := trodVars_none hV
  obtain ⟨x0, rfl, -, -, w0⟩ := open_int Try.underlying2 (hval 0 2 v0 rfl rfl) h0
  obtain ⟨x1, rfl, -, -, w1⟩ := open_int Try.underlying2 (hval 1 2 v1 rfl rfl) h1
  obtain ⟨x2, rfl, -, -, w2⟩ := open_int Try.underlying2 (hval 2 2 v2 rfl rfl) h2
  obtain ⟨x3, rfl, -, -, w3⟩ := open_int Try.underlying2 (hval 3 2 v3 rfl rfl) h3
  refine (walk x0 x1 x2 x3 W).mono fun e W' ⟨he, g, hg⟩ => ?_
  subst he
  have hb : Below W.heap.size W W' := by rw [hg]; exact ext_below W g
  have hARG := trodAll_below hb _ (by kernel_rfl) hlt hK
  exact ⟨_, rfl, [d0, d1, d2, d3], [], _, [], p0 ++ (p1 ++ (p2 ++ (p3 ++ ([])))), [], hW', trodAll_cons_mk (shut_bool Try.underlying4 _) trodAll_mk0, hARG, rfl, hb.frame _, fun h => by cases h⟩

theorem over : Rows.fnExactNightsFromRow.holds Try.pinned (OpenSpec.ofChange Rows.fnExactNightsFromSpec) :=
  OpenClaim.holds_of_wide 6 Try.f6 rfl rfl rfl rfl rfl rfl rfl ⟨rfl, rfl, rfl, rfl, rfl⟩ rfl rfl rfl rfl rfl (by kernel_rfl) Try.func6 (by kernel_rfl)
    (of_decide_eq_true (by kernel_rfl)) (by unfold Func.isWrapper; first | (rw [if_pos (by decide +kernel)]; kernel_rfl) | (rw [if_neg (by decide +kernel)]; exact ⟨rfl, rfl⟩))
    (fun os started H enc _ => lifted os started H enc)

theorem proved : Rows.FnExactNightsFromSaid := over
end Go.Proofs.Ytehfbpdjhkdchaa.lawNightsFrom
