/- 'FnExactWithoutStar' returns true, whatever the arguments; no condition. -/
import Derived.Test.YthahkoclkjfkdaaGreat
import Derived.Test.YthahkoclkjfkdaaOpen
namespace Go.Proofs.Ythahkoclkjfkdaa.lawWithoutStar
open Go.ChangeShapes Go.WideShapes Go.ChangeAt Go.RowKit

set_option maxRecDepth 100000 in
set_option maxHeartbeats 8000000 in
theorem walk (a_ws : Option Addr) (n_ws c_ws : Nat) (ws : List (List Int)) (t : Int) (w : World) (hs_ws : SlN w a_ws n_ws c_ws ws) :
    Calls Try.prog 6 #[.slice a_ws n_ws c_ws, .int .i64 t] w (Ret (.bool true) w) := by
  refine hide_ret fun v H => ?_
  have hcap_ws := hs_ws.le; have hmax_ws := hs_ws.cap
  unfold maxLen at hmax_ws
  have hr_ws := hs_ws.rd
  have T1 := fun u w hu => sWithoutStar_c u ws t w hu
  have T2 := fun u w hu => WithoutStar_c u ws t w hu
  generalize withoutI ws t = z at *
  obtain ⟨z1, z2⟩ := z
  dsimp only at T1 T2
  have S1 := Lib.hid T1
  have S2 := Lib.hid T2
  clear T1 T2
  have hq1 : (z1 != z1) = false := by simp
  have hq2 : (z2 != z2) = false := by simp
  obtain ⟨hz1, hz2, hz3⟩ := szN_bd 1048576 ws (by omega)
  have HZ := Lib.hid (fun w hu => szInt64SS_c (.slice a_ws n_ws c_ws) ws 1048576 w hu (by omega) (by omega))
  generalize szN 1048576 ws = Z at *
  by_cases hneg : Z < 0
  · clear hz3
    go_enter Try.func6, Try.ntmps6
    go_wp2_with (first | (go_at_call 12; refine Calls.mono (HZ.out _ ?_) ?_; (focus (apply RdN.bel; (focus assumption); (repeat (first | with_reducible exact Bel.refl _ | with_reducible assumption | apply Bel.ext | apply Bel.alloc | apply Bel.drew | exact Bel.refl _)))); rintro ee ww ⟨rfl, _, rfl⟩))
    go_ret
    refine Ret.mk ?_ (?_ : Bel _ _)
    · exact H.out
    · (repeat (first | with_reducible exact Bel.refl _ | with_reducible assumption | apply Bel.ext | apply Bel.alloc | apply Bel.drew | exact Bel.refl _ | refine Bel.set ?_ (by first | (simp; done) | (simp [go_sem]; done) | omega) _))
  obtain ⟨hl1, hl2⟩ := hz3 (by omega)
  have hlen : ws.length ≤ 1000000000 := by omega
  have HX := Lib.hid (fun xs (hx : xs ∈ ws) => (by have := hl2 xs hx; omega : xs.length ≤ 1000000000))
  clear hl2
  go_enter Try.func6, Try.ntmps6
  go_wp2_with (first | (go_at_call 12; refine Calls.mono (HZ.out _ ?_) ?_; (focus (apply RdN.bel; (focus assumption); (repeat (first | with_reducible exact Bel.refl _ | with_reducible assumption | apply Bel.ext | apply Bel.alloc | apply Bel.drew | exact Bel.refl _)))); rintro ee ww ⟨rfl, _, rfl⟩) | (go_at_call 14; refine Calls.mono (toInt64SS_n _ ws _ ?_ hlen HX.out) ?_; (focus (apply RdN.bel; (focus assumption); (repeat (first | with_reducible exact Bel.refl _ | with_reducible assumption | apply Bel.ext | apply Bel.alloc | apply Bel.drew | exact Bel.refl _)))); rintro ee ww ⟨_, _, rfl, rfl, _⟩) | (go_at_call 16; refine Calls.mono (eqInt64SS_c _ _ ws ws _ ?_ ?_) ?_; (focus (apply RdN.bel; (focus assumption); (repeat (first | with_reducible exact Bel.refl _ | with_reducible assumption | apply Bel.ext | apply Bel.alloc | apply Bel.drew | exact Bel.refl _)))); (focus (apply RdN.bel; (focus assumption); (repeat (first | with_reducible exact Bel.refl _ | with_reducible assumption | apply Bel.ext | apply Bel.alloc | apply Bel.drew | exact Bel.refl _)))); rintro ee ww ⟨rfl, _, rfl⟩) | (go_at_call 23; refine Calls.mono (S1.out _ _ ?_) ?_; (focus (apply RdN.bel; (focus assumption); (repeat (first | with_reducible exact Bel.refl _ | with_reducible assumption | apply Bel.ext | apply Bel.alloc | apply Bel.drew | exact Bel.refl _)))); rintro ee ww ⟨rfl, _, rfl⟩) | (go_at_call 24; refine Calls.mono (S2.out _ _ ?_) ?_; (focus (apply RdN.bel; (focus assumption); (repeat (first | with_reducible exact Bel.refl _ | with_reducible assumption | apply Bel.ext | apply Bel.alloc | apply Bel.drew | exact Bel.refl _)))); rintro ee ww ⟨rfl, _, rfl⟩))
  all_goals go_ret
  all_goals refine Ret.mk ?_ (?_ : Bel _ _)
  all_goals first | exact H.out | (repeat (first | with_reducible exact Bel.refl _ | with_reducible assumption | apply Bel.ext | apply Bel.alloc | apply Bel.drew | exact Bel.refl _ | refine Bel.set ?_ (by first | (simp; done) | (simp [go_sem]; done) | omega) _))

set_option maxRecDepth 100000 in
theorem lifted (os : Os) (started : os.Started) (H : Type) (enc : TypeId × Value → H) :
    ReturnsInHanded {} Try.checked os 6 .any (Rows.fnExactWithoutStarSpec.pre6 enc Try.prog Try.f6 Rows.fnExactWithoutStarRow.domain false) (Rows.fnExactWithoutStarSpec.post enc Try.prog Try.f6 false true false false) := by
  refine returnsInHanded_of_change (C := Try.checked) own started (by kernel_rfl) Try.func6
    (ChangeSpec.witness6 (enc := enc) (C := Try.checked) false ⟨#[], #[.slice none 0 0, .int .i64 0], []⟩ 8 (by kernel_rfl) (by kernel_rfl) (by kernel_rfl) (by kernel_rfl)) ?_
  intro W base args ds gs before hval0 hW _ _
  have hval : ∀ (j : Nat) t v, Try.f6.params[j]? = some t → args[j]? = some v → Value.okWide Try.prog W .any base t v := hval0
  have hW' := hW
  obtain ⟨p, q, hA0, hV, rfl, hfz, hnd⟩ := hW
  have hA : DataW.TrodAll enc Try.prog W 0 (fun _ => true) true Try.f6.params.toList args.toList ds p := hA0
  have hlt : ∀ x ∈ p, x.block < W.heap.size := fun x hx => hW'.lt x (by simp [hx])
  rw [Try.params6] at hA hval
  have hK := hA
  obtain ⟨v0, vs0, d0, ds0, p0, q0, hargs, rfl, rfl, h0, r0⟩ := trodAll_cons hA
  obtain ⟨v1, vs1, d1, ds1, p1, q1, rfl, rfl, rfl, h1, r1⟩ := trodAll_cons r0
  obtain ⟨rfl, rfl, rfl⟩ := trodAll_nil r1
  obtain rfl : args = #[v0, v1] := by cases args; simp_all
  obtain ⟨rfl, rfl⟩ := trodVars_none hV
  obtain ⟨a0, n0, cp0, xs0, rfl, hs0⟩ := open_slN Try.underlying22 Try.underlying27 Try.underlying2 (by kernel_rfl) (by kernel_rfl) (hval 0 22 v0 rfl rfl) h0
  obtain ⟨x1, rfl, -, -, w1⟩ := open_int Try.underlying2 (hval 1 2 v1 rfl rfl) h1
  refine (walk a0 n0 cp0 xs0 x1 W hs0).mono fun e W' ⟨he, g, hg⟩ => ?_
  subst he
  have hb : Below W.heap.size W W' := by rw [hg]; exact ext_below W g
  have hARG := trodAll_below hb _ (by kernel_rfl) hlt hK
  exact ⟨_, rfl, [d0, d1], [], _, [], p0 ++ (p1 ++ ([])), [], hW', trodAll_cons_mk (shut_bool Try.underlying4 _) trodAll_mk0, hARG, rfl, hb.frame _, fun h => by cases h⟩

theorem over : Rows.fnExactWithoutStarRow.holds Try.pinned (OpenSpec.ofChange Rows.fnExactWithoutStarSpec) :=
  OpenClaim.holds_of_wide 6 Try.f6 rfl rfl rfl rfl rfl rfl rfl ⟨rfl, rfl, rfl, rfl, rfl⟩ rfl rfl rfl rfl rfl (by kernel_rfl) Try.func6 (by kernel_rfl)
    (of_decide_eq_true (by kernel_rfl)) (by unfold Func.isWrapper; first | (rw [if_pos (by decide +kernel)]; kernel_rfl) | (rw [if_neg (by decide +kernel)]; exact ⟨rfl, rfl⟩))
    (fun os started H enc _ => lifted os started H enc)

theorem proved : Rows.FnExactWithoutStarSaid := over
end Go.Proofs.Ythahkoclkjfkdaa.lawWithoutStar
