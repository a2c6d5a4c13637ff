/- 'FnExactProvesWorth' returns true, whatever the arguments; no condition. -/
import Derived.Test.YthahkoclkjfkdaaProve2
import Derived.Test.YthahkoclkjfkdaaOpen
namespace Go.Proofs.Ythahkoclkjfkdaa.lawProvesWorth
open Go.ChangeShapes Go.WideShapes Go.ChangeAt Go.RowKit

set_option maxRecDepth 100000 in
set_option maxHeartbeats 8000000 in
theorem walk (a_ws : Option Addr) (n_ws c_ws : Nat) (ws : List (List Int)) (a_os : Option Addr) (n_os c_os : Nat) (os : List Int) (a_ss : Option Addr) (n_ss c_ss : Nat) (ss : List Int) (t : Int) (w : World) (hs_ws : SlN w a_ws n_ws c_ws ws) (hs_os : Sl celI w a_os n_os c_os os) (hs_ss : Sl celI w a_ss n_ss c_ss ss) :
    Calls Try.prog 4 #[.slice a_ws n_ws c_ws, .slice a_os n_os c_os, .slice a_ss n_ss c_ss, .int .i64 t] w (Ret (.bool true) w) := by
  refine hide_ret fun v H => ?_
  have hcap_ws := hs_ws.le; have hmax_ws := hs_ws.cap
  unfold maxLen at hmax_ws
  have hr_ws := hs_ws.rd
  have hcap_os := hs_os.le; have hmax_os := hs_os.cap
  unfold maxLen at hmax_os
  have hr_os := hs_os.rd
  have HL_os := Lib.hid hs_os.len
  have hcap_ss := hs_ss.le; have hmax_ss := hs_ss.cap
  unfold maxLen at hmax_ss
  have hr_ss := hs_ss.rd
  have HL_ss := Lib.hid hs_ss.len
  have T1 := fun u u1 u2 w hu hu1 hu2 => sProvesWorth_c u ws u1 os u2 ss t w hu hu1 hu2
  have T2 := fun u u1 u2 w hu hu1 hu2 => ProvesWorth_c u ws u1 os u2 ss t w hu hu1 hu2
  generalize proveI ws os ss t = z at *
  obtain ⟨z1, z2⟩ := z
  dsimp only at T1 T2
  have S1 := Lib.hid T1
  have S2 := Lib.hid T2
  clear T1 T2
  have hq1 : (z1 != z1) = false := by simp
  have hq2 : (z2 != z2) = false := by simp
  by_cases hn_os : (1048576 : Int) < n_os
  · go_enter Try.func4, Try.ntmps4
    go_wp2
    go_ret
    refine Ret.mk ?_ (?_ : Bel _ _)
    · exact H.out
    · (repeat (first | with_reducible exact Bel.refl _ | apply Bel.ext | apply Bel.alloc | apply Bel.drew | exact Bel.refl _ | refine Bel.set ?_ (by first | (simp; done) | (simp [go_sem]; done) | omega) _))
  have hlen_os : os.length ≤ 1000000000 := by rw [← HL_os.out]; omega
  by_cases hn_ss : (1048576 : Int) < n_ss
  · go_enter Try.func4, Try.ntmps4
    go_wp2
    go_ret
    refine Ret.mk ?_ (?_ : Bel _ _)
    · exact H.out
    · (repeat (first | with_reducible exact Bel.refl _ | apply Bel.ext | apply Bel.alloc | apply Bel.drew | exact Bel.refl _ | refine Bel.set ?_ (by first | (simp; done) | (simp [go_sem]; done) | omega) _))
  have hlen_ss : ss.length ≤ 1000000000 := by rw [← HL_ss.out]; omega
  obtain ⟨hz1, hz2, hz3⟩ := szN_bd 1048576 ws (by omega)
  have HZ := Lib.hid (fun w hu => szInt64SS_c (.slice a_ws n_ws c_ws) ws 1048576 w hu (by omega) (by omega))
  generalize szN 1048576 ws = Z at *
  by_cases hneg : Z < 0
  · clear hz3
    go_enter Try.func4, Try.ntmps4
    go_wp2_with (first | (go_at_call 12; refine Calls.mono (HZ.out _ ?_) ?_; (focus (apply RdN.bel; (focus assumption); (repeat (first | with_reducible exact Bel.refl _ | apply Bel.ext | apply Bel.alloc | apply Bel.drew | exact Bel.refl _)))); rintro ee ww ⟨rfl, _, rfl⟩))
    go_ret
    refine Ret.mk ?_ (?_ : Bel _ _)
    · exact H.out
    · (repeat (first | with_reducible exact Bel.refl _ | apply Bel.ext | apply Bel.alloc | apply Bel.drew | exact Bel.refl _ | refine Bel.set ?_ (by first | (simp; done) | (simp [go_sem]; done) | omega) _))
  obtain ⟨hl1, hl2⟩ := hz3 (by omega)
  have hlen : ws.length ≤ 1000000000 := by omega
  have HX := Lib.hid (fun xs (hx : xs ∈ ws) => (by have := hl2 xs hx; omega : xs.length ≤ 1000000000))
  clear hl2
  go_enter Try.func4, Try.ntmps4
  go_wp2_with (first | (go_at_call 12; refine Calls.mono (HZ.out _ ?_) ?_; (focus (apply RdN.bel; (focus assumption); (repeat (first | with_reducible exact Bel.refl _ | apply Bel.ext | apply Bel.alloc | apply Bel.drew | exact Bel.refl _)))); rintro ee ww ⟨rfl, _, rfl⟩) | (go_at_call 14; refine Calls.mono (toInt64SS_n _ ws _ ?_ hlen HX.out) ?_; (focus (apply RdN.bel; (focus assumption); (repeat (first | with_reducible exact Bel.refl _ | apply Bel.ext | apply Bel.alloc | apply Bel.drew | exact Bel.refl _)))); rintro ee ww ⟨_, _, rfl, rfl, _⟩) | (go_at_call 16; refine Calls.mono (eqInt64SS_c _ _ ws ws _ ?_ ?_) ?_; (focus (apply RdN.bel; (focus assumption); (repeat (first | with_reducible exact Bel.refl _ | apply Bel.ext | apply Bel.alloc | apply Bel.drew | exact Bel.refl _)))); (focus (apply RdN.bel; (focus assumption); (repeat (first | with_reducible exact Bel.refl _ | apply Bel.ext | apply Bel.alloc | apply Bel.drew | exact Bel.refl _)))); rintro ee ww ⟨rfl, _, rfl⟩) | (go_at_call 18; refine args_guard1 (u := .slice a_os n_os c_os) (by with_reducible rfl) ?_; refine Calls.mono (toInt64S_c _ os _ (hr_os.bel ?_) hlen_os) ?_; (focus (repeat (first | with_reducible exact Bel.refl _ | apply Bel.ext | apply Bel.alloc | apply Bel.drew | exact Bel.refl _))); rintro ee ww ⟨_, _, rfl, rfl, _⟩) | (go_at_call 20; refine Calls.mono (eqInt64S_c _ _ os os _ ?_ ?_) ?_; (focus (apply Rd.bel; (focus (first | assumption | (apply rd_of_row; assumption))); (repeat (first | with_reducible exact Bel.refl _ | apply Bel.ext | apply Bel.alloc | apply Bel.drew | exact Bel.refl _)))); (focus (apply Rd.bel; (focus (first | assumption | (apply rd_of_row; assumption))); (repeat (first | with_reducible exact Bel.refl _ | apply Bel.ext | apply Bel.alloc | apply Bel.drew | exact Bel.refl _)))); rintro ee ww ⟨rfl, _, rfl⟩) | (go_at_call 18; refine args_guard1 (u := .slice a_ss n_ss c_ss) (by with_reducible rfl) ?_; refine Calls.mono (toInt64S_c _ ss _ (hr_ss.bel ?_) hlen_ss) ?_; (focus (repeat (first | with_reducible exact Bel.refl _ | apply Bel.ext | apply Bel.alloc | apply Bel.drew | exact Bel.refl _))); rintro ee ww ⟨_, _, rfl, rfl, _⟩) | (go_at_call 20; refine Calls.mono (eqInt64S_c _ _ ss ss _ ?_ ?_) ?_; (focus (apply Rd.bel; (focus (first | assumption | (apply rd_of_row; assumption))); (repeat (first | with_reducible exact Bel.refl _ | apply Bel.ext | apply Bel.alloc | apply Bel.drew | exact Bel.refl _)))); (focus (apply Rd.bel; (focus (first | assumption | (apply rd_of_row; assumption))); (repeat (first | with_reducible exact Bel.refl _ | apply Bel.ext | apply Bel.alloc | apply Bel.drew | exact Bel.refl _)))); rintro ee ww ⟨rfl, _, rfl⟩) | (go_at_call 17; refine Calls.mono (S1.out _ _ _ _ ?_ ?_ ?_) ?_; (focus (apply RdN.bel; (focus assumption); (repeat (first | with_reducible exact Bel.refl _ | apply Bel.ext | apply Bel.alloc | apply Bel.drew | exact Bel.refl _)))); (focus (apply Rd.bel; (focus (first | assumption | (apply rd_of_row; assumption))); (repeat (first | with_reducible exact Bel.refl _ | apply Bel.ext | apply Bel.alloc | apply Bel.drew | exact Bel.refl _)))); (focus (apply Rd.bel; (focus (first | assumption | (apply rd_of_row; assumption))); (repeat (first | with_reducible exact Bel.refl _ | apply Bel.ext | apply Bel.alloc | apply Bel.drew | exact Bel.refl _)))); rintro ee ww ⟨rfl, _, rfl⟩) | (go_at_call 19; refine Calls.mono (S2.out _ _ _ _ ?_ ?_ ?_) ?_; (focus (apply RdN.bel; (focus assumption); (repeat (first | with_reducible exact Bel.refl _ | apply Bel.ext | apply Bel.alloc | apply Bel.drew | exact Bel.refl _)))); (focus (apply Rd.bel; (focus (first | assumption | (apply rd_of_row; assumption))); (repeat (first | with_reducible exact Bel.refl _ | apply Bel.ext | apply Bel.alloc | apply Bel.drew | exact Bel.refl _)))); (focus (apply Rd.bel; (focus (first | assumption | (apply rd_of_row; assumption))); (repeat (first | with_reducible exact Bel.refl _ | apply Bel.ext | apply Bel.alloc | apply Bel.drew | exact Bel.refl _)))); rintro ee ww ⟨rfl, _, rfl⟩))
  all_goals go_ret
  all_goals refine Ret.mk ?_ (?_ : Bel _ _)
  all_goals first | exact H.out | (repeat (first | with_reducible exact Bel.refl _ | apply Bel.ext | apply Bel.alloc | apply Bel.drew | exact Bel.refl _ | refine Bel.set ?_ (by first | (simp; done) | (simp [go_sem]; done) | omega) _))

set_option maxRecDepth 100000 in
theorem lifted (os : Os) (started : os.Started) (H : Type) (enc : TypeId × Value → H) :
    ReturnsInHanded {} Try.checked os 4 .any (Rows.fnExactProvesWorthSpec.pre6 enc Try.prog Try.f4 Rows.fnExactProvesWorthRow.domain false) (Rows.fnExactProvesWorthSpec.post enc Try.prog Try.f4 false true false false) := by
  refine returnsInHanded_of_change (C := Try.checked) own started (by kernel_rfl) Try.func4
    (ChangeSpec.witness6 (enc := enc) (C := Try.checked) false ⟨#[], #[.slice none 0 0, .slice none 0 0, .slice none 0 0, .int .i64 0], []⟩ 8 (by kernel_rfl) (by kernel_rfl) (by kernel_rfl) (by kernel_rfl)) ?_
  intro W base args ds gs before hval0 hW _ _
  have hval : ∀ (j : Nat) t v, Try.f4.params[j]? = some t → args[j]? = some v → Value.okWide Try.prog W .any base t v := hval0
  have hW' := hW
  obtain ⟨p, q, hA0, hV, rfl, hfz, hnd⟩ := hW
  have hA : DataW.TrodAll enc Try.prog W 0 (fun _ => true) true Try.f4.params.toList args.toList ds p := hA0
  have hlt : ∀ x ∈ p, x.block < W.heap.size := fun x hx => hW'.lt x (by simp [hx])
  rw [Try.params4] at hA hval
  have hK := hA
  obtain ⟨v0, vs0, d0, ds0, p0, q0, hargs, rfl, rfl, h0, r0⟩ := trodAll_cons hA
  obtain ⟨v1, vs1, d1, ds1, p1, q1, rfl, rfl, rfl, h1, r1⟩ := trodAll_cons r0
  obtain ⟨v2, vs2, d2, ds2, p2, q2, rfl, rfl, rfl, h2, r2⟩ := trodAll_cons r1
  obtain ⟨v3, vs3, d3, ds3, p3, q3, rfl, rfl, rfl, h3, r3⟩ := trodAll_cons r2
  obtain ⟨rfl, rfl, rfl⟩ := trodAll_nil r3
  obtain rfl : args = #[v0, v1, v2, v3] := by cases args; simp_all
  obtain ⟨rfl, rfl⟩ := trodVars_none hV
  obtain ⟨a0, n0, cp0, xs0, rfl, hs0⟩ := open_slN Try.underlying22 Try.underlying27 Try.underlying2 (by kernel_rfl) (by kernel_rfl) (hval 0 22 v0 rfl rfl) h0
  obtain ⟨a1, n1, cp1, xs1, rfl, hs1⟩ := open_slI Try.underlying27 Try.underlying2 (by kernel_rfl) (hval 1 27 v1 rfl rfl) h1
  obtain ⟨a2, n2, cp2, xs2, rfl, hs2⟩ := open_slI Try.underlying27 Try.underlying2 (by kernel_rfl) (hval 2 27 v2 rfl rfl) h2
  obtain ⟨x3, rfl, -, -, w3⟩ := open_int Try.underlying2 (hval 3 2 v3 rfl rfl) h3
  refine (walk a0 n0 cp0 xs0 a1 n1 cp1 xs1 a2 n2 cp2 xs2 x3 W hs0 hs1 hs2).mono fun e W' ⟨he, g, hg⟩ => ?_
  subst he
  have hb : Below W.heap.size W W' := by rw [hg]; exact ext_below W g
  have hARG := trodAll_below hb _ (by kernel_rfl) hlt hK
  exact ⟨_, rfl, [d0, d1, d2, d3], [], _, [], p0 ++ (p1 ++ (p2 ++ (p3 ++ ([])))), [], hW', trodAll_cons_mk (shut_bool Try.underlying4 _) trodAll_mk0, hARG, rfl, hb.frame _, fun h => by cases h⟩

theorem over : Rows.fnExactProvesWorthRow.holds Try.pinned (OpenSpec.ofChange Rows.fnExactProvesWorthSpec) :=
  OpenClaim.holds_of_wide 4 Try.f4 rfl rfl rfl rfl rfl rfl rfl ⟨rfl, rfl, rfl, rfl, rfl⟩ rfl rfl rfl rfl rfl (by kernel_rfl) Try.func4 (by kernel_rfl)
    (of_decide_eq_true (by kernel_rfl)) (by unfold Func.isWrapper; first | (rw [if_pos (by decide +kernel)]; kernel_rfl) | (rw [if_neg (by decide +kernel)]; exact ⟨rfl, rfl⟩))
    (fun os started H enc _ => lifted os started H enc)

theorem proved : Rows.FnExactProvesWorthSaid := over
end Go.Proofs.Ythahkoclkjfkdaa.lawProvesWorth
