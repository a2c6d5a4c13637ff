/- 'FnExactGreedyAssignment' returns true, whatever the table; no condition. -/
import Derived.Test.YthahkoclkjfkdaaGreedy2
import Derived.Test.YthahkoclkjfkdaaMark
import Derived.Test.YthahkoclkjfkdaaOpen
namespace Go.Proofs.Ythahkoclkjfkdaa.lawGreedyAssignment
open Go.ChangeShapes Go.WideShapes Go.ChangeAt Go.RowKit

set_option maxRecDepth 100000 in
set_option maxHeartbeats 8000000 in
theorem walk (a_ws : Option Addr) (n_ws c_ws : Nat) (ws : List (List Int)) (w : World) (hs_ws : SlN w a_ws n_ws c_ws ws) :
    Calls Try.prog 11 #[.slice a_ws n_ws c_ws] w (Ret (.bool true) w) := by
  refine hide_ret fun v H => ?_
  have hcap_ws := hs_ws.le; have hmax_ws := hs_ws.cap
  unfold maxLen at hmax_ws
  have hr_ws := hs_ws.rd
  have hlen6 := greedyI_len ws
  have T1 := fun u w hu => sGreedyAssignment_c u ws w hu
  have T2 := fun u w hu => GreedyAssignment_c u ws w hu
  generalize greedyI ws = z at *
  obtain ⟨ys, code⟩ := z
  dsimp only at T1 T2 hlen6
  have S1 := Lib.hid T1
  have S2 := Lib.hid T2
  clear T1 T2
  have hcode : (code != code) = false := by simp
  obtain ⟨hz1, hz2, hz3⟩ := szN_bd 1048576 ws (by omega)
  have hz4 := szN_sum (xss := ws) (l := 1048576)
  have HZ := Lib.hid (fun w hu => szInt64SS_c (.slice a_ws n_ws c_ws) ws 1048576 w hu (by omega) (by omega))
  generalize szN 1048576 ws = Z at *
  by_cases hneg : Z < 0
  · clear hz3 hz4
    go_enter Try.func11, Try.ntmps11
    go_wp2_with (first | (go_at_call 12; refine Calls.mono (HZ.out _ ?_) ?_; (focus (apply RdN.bel; (focus assumption); (repeat (first | with_reducible exact Bel.refl _ | with_reducible assumption | apply Bel.ext | apply Bel.alloc | apply Bel.drew | exact Bel.refl _)))); rintro ee ww ⟨rfl, _, rfl⟩))
    go_ret
    refine Ret.mk ?_ (?_ : Bel _ _)
    · exact H.out
    · (repeat (first | with_reducible exact Bel.refl _ | with_reducible assumption | apply Bel.ext | apply Bel.alloc | apply Bel.drew | exact Bel.refl _ | refine Bel.set ?_ (by first | (simp; done) | (simp [go_sem]; done) | omega) _))
  obtain ⟨hl1, hl2⟩ := hz3 (by omega)
  have hsum := hz4 (by omega)
  have hlen : ws.length ≤ 1000000000 := by omega
  have HX := Lib.hid (fun xs (hx : xs ∈ ws) => (by have := hl2 xs hx; omega : xs.length ≤ 1000000000))
  clear hl2 hz3 hz4
  have hkn : ¬ (1 + (lenS ws : Int)) < 0 := by omega
  have hq1 : decide (ys = ys) = true := by simp
  have hM := mem_nil w
  go_enter Try.func11, Try.ntmps11
  go_wp2_with (first | (go_at_call 12; refine Calls.mono (mem_ret hM ?_ (HZ.out _ (hr_ws.bel ?_))) ?_; (focus (repeat (first | with_reducible exact Bel.refl _ | with_reducible assumption | apply Bel.ext | apply Bel.alloc | apply Bel.drew | exact Bel.refl _))); (focus (repeat (first | with_reducible exact Bel.refl _ | with_reducible assumption | apply Bel.ext | apply Bel.alloc | apply Bel.drew | exact Bel.refl _))); rintro ee ww ⟨rfl, _, rfl, hM⟩))
  refine Calls.mono (mem_nst hM ?_ (toInt64SS_n _ ws _ (hr_ws.bel ?_) hlen HX.out)) ?_
  · (repeat (first | with_reducible exact Bel.refl _ | with_reducible assumption | apply Bel.ext | apply Bel.alloc | apply Bel.drew | exact Bel.refl _ | refine Bel.set ?_ (by first | (simp; done) | (simp [go_sem]; done) | omega) _))
  · (repeat (first | with_reducible exact Bel.refl _ | with_reducible assumption | apply Bel.ext | apply Bel.alloc | apply Bel.drew | exact Bel.refl _ | refine Bel.set ?_ (by first | (simp; done) | (simp [go_sem]; done) | omega) _))
  rintro ee ww ⟨u1, g1, rfl, rfl, hN1, hM⟩
  go_wp2_with (first | (go_at_call 36; refine Calls.mono (mem_rowF hM ?_ (S1.out _ _ (hN1.bel ?_))) ?_; (focus (repeat (first | with_reducible exact Bel.refl _ | with_reducible assumption | apply Bel.ext | apply Bel.alloc | apply Bel.drew | exact Bel.refl _))); (focus (repeat (first | with_reducible exact Bel.refl _ | with_reducible assumption | apply Bel.ext | apply Bel.alloc | apply Bel.drew | exact Bel.refl _))); rintro ee ww ⟨v1, _, rfl, rfl, hM⟩))
  refine Calls.mono (mem_grp hM ?_ (toInt64SS_c _ ws _ (hr_ws.bel ?_) hlen HX.out)) ?_
  · (repeat (first | with_reducible exact Bel.refl _ | with_reducible assumption | apply Bel.ext | apply Bel.alloc | apply Bel.drew | exact Bel.refl _ | refine Bel.set ?_ (by first | (simp; done) | (simp [go_sem]; done) | omega) _))
  · (repeat (first | with_reducible exact Bel.refl _ | with_reducible assumption | apply Bel.ext | apply Bel.alloc | apply Bel.drew | exact Bel.refl _ | refine Bel.set ?_ (by first | (simp; done) | (simp [go_sem]; done) | omega) _))
  rintro ee ww ⟨u2, us, g2, rfl, rfl, hus, hN2, hM⟩
  simp only [List.cons_append, List.nil_append] at hM
  have HUS := Lib.hid hus
  clear hus
  go_wp2_with (first | (go_at_call 37; refine Calls.mono (mem_rowF hM ?_ (S2.out _ _ (hN2.bel ?_))) ?_; (focus (repeat (first | with_reducible exact Bel.refl _ | with_reducible assumption | apply Bel.ext | apply Bel.alloc | apply Bel.drew | exact Bel.refl _))); (focus (repeat (first | with_reducible exact Bel.refl _ | with_reducible assumption | apply Bel.ext | apply Bel.alloc | apply Bel.drew | exact Bel.refl _))); rintro ee ww ⟨v2, _, rfl, rfl, hM⟩) | (go_at_call 20; refine Calls.mono (mem_ret hM ?_ (eqInt64S_c _ _ ys ys _ (Rd.bel (rd_of hM 0 rfl) ?_) (Rd.bel (rd_of hM 1 rfl) ?_))) ?_; (focus (repeat (first | with_reducible exact Bel.refl _ | with_reducible assumption | apply Bel.ext | apply Bel.alloc | apply Bel.drew | exact Bel.refl _))); (focus (repeat (first | with_reducible exact Bel.refl _ | with_reducible assumption | apply Bel.ext | apply Bel.alloc | apply Bel.drew | exact Bel.refl _))); (focus (repeat (first | with_reducible exact Bel.refl _ | with_reducible assumption | apply Bel.ext | apply Bel.alloc | apply Bel.drew | exact Bel.refl _))); rintro ee ww ⟨rfl, _, rfl, hM⟩))
  refine Calls.mono (mem_nst hM ?_ (toInt64SS_n _ ws _ (hr_ws.bel ?_) hlen HX.out)) ?_
  · (repeat (first | with_reducible exact Bel.refl _ | with_reducible assumption | apply Bel.ext | apply Bel.alloc | apply Bel.drew | exact Bel.refl _ | refine Bel.set ?_ (by first | (simp; done) | (simp [go_sem]; done) | omega) _))
  · (repeat (first | with_reducible exact Bel.refl _ | with_reducible assumption | apply Bel.ext | apply Bel.alloc | apply Bel.drew | exact Bel.refl _ | refine Bel.set ?_ (by first | (simp; done) | (simp [go_sem]; done) | omega) _))
  rintro ee ww ⟨u3, g3, rfl, rfl, hN3, hM⟩
  have hN4 := grp_rd HUS.out (mem_tail (mem_tail hM))
  go_wp2_with (first | (go_at_call 16; refine Calls.mono (mem_ret hM ?_ (eqInt64SS_c _ _ ws ws _ (hN4.bel ?_) (hN3.bel ?_))) ?_; (focus (repeat (first | with_reducible exact Bel.refl _ | with_reducible assumption | apply Bel.ext | apply Bel.alloc | apply Bel.drew | exact Bel.refl _))); (focus (repeat (first | with_reducible exact Bel.refl _ | with_reducible assumption | apply Bel.ext | apply Bel.alloc | apply Bel.drew | exact Bel.refl _))); (focus (repeat (first | with_reducible exact Bel.refl _ | with_reducible assumption | apply Bel.ext | apply Bel.alloc | apply Bel.drew | exact Bel.refl _))); rintro ee ww ⟨rfl, _, rfl, hM⟩) | (go_at_call 31; refine Calls.mono (markInt64SS_c [_, _] _ _ _ us ws 1 w _ (mem_bel hM ?_) HUS.out (by omega) (by omega) hlen HX.out) ?_; (focus (repeat (first | with_reducible exact Bel.refl _ | with_reducible assumption | apply Bel.ext | apply Bel.alloc | apply Bel.drew | exact Bel.refl _))); rintro ee ww ⟨rfl, _, rfl, hM⟩) | (go_at_call 20; refine Calls.mono (mem_ret hM ?_ (eqInt64S_c _ _ ys ys _ (Rd.bel (rd_of hM 0 rfl) ?_) (Rd.bel (rd_of hM 1 rfl) ?_))) ?_; (focus (repeat (first | with_reducible exact Bel.refl _ | with_reducible assumption | apply Bel.ext | apply Bel.alloc | apply Bel.drew | exact Bel.refl _))); (focus (repeat (first | with_reducible exact Bel.refl _ | with_reducible assumption | apply Bel.ext | apply Bel.alloc | apply Bel.drew | exact Bel.refl _))); (focus (repeat (first | with_reducible exact Bel.refl _ | with_reducible assumption | apply Bel.ext | apply Bel.alloc | apply Bel.drew | exact Bel.refl _))); rintro ee ww ⟨rfl, _, rfl, hM⟩) | (go_at_call 32; refine args_guard hM 0 rfl (by with_reducible rfl) ?_; refine Calls.mono (mem_mark hM ?_ 0 rfl (fun hM => markInt64S_c _ _ ys.length _ 1 _ _ hM.bel (hM.own 0 _ rfl) (by omega) (by omega) (by omega))) ?_; (focus (repeat (first | with_reducible exact Bel.refl _ | with_reducible assumption | apply Bel.ext | apply Bel.alloc | apply Bel.drew | exact Bel.refl _))); rintro ee ww ⟨rfl, _, rfl, hM⟩; (try simp only [List.nil_append, List.cons_append, List.set_cons_zero, List.set_cons_succ] at hM)) | (go_at_call 33; refine args_guard hM 0 rfl (by with_reducible rfl) ?_; refine Calls.mono (mem_ret hM ?_ (heldInt64S_c _ w.heap.size 2 ys.length 1 _ (own_bel (hM.own 0 _ rfl) ?_) (by omega) (by omega) (by omega))) ?_; (focus (repeat (first | with_reducible exact Bel.refl _ | with_reducible assumption | apply Bel.ext | apply Bel.alloc | apply Bel.drew | exact Bel.refl _))); (focus (repeat (first | with_reducible exact Bel.refl _ | with_reducible assumption | apply Bel.ext | apply Bel.alloc | apply Bel.drew | exact Bel.refl _))); rintro ee ww ⟨rfl, _, rfl, hM⟩))
  refine Calls.mono (mem_nst hM ?_ (toInt64SS_n _ ws _ (hr_ws.bel ?_) hlen HX.out)) ?_
  · (repeat (first | with_reducible exact Bel.refl _ | with_reducible assumption | apply Bel.ext | apply Bel.alloc | apply Bel.drew | exact Bel.refl _ | refine Bel.set ?_ (by first | (simp; done) | (simp [go_sem]; done) | omega) _))
  · (repeat (first | with_reducible exact Bel.refl _ | with_reducible assumption | apply Bel.ext | apply Bel.alloc | apply Bel.drew | exact Bel.refl _ | refine Bel.set ?_ (by first | (simp; done) | (simp [go_sem]; done) | omega) _))
  rintro ee ww ⟨u5, g5, rfl, rfl, hN5, hM⟩
  go_wp2_with (first | (go_at_call 37; refine Calls.mono (mem_rowF hM ?_ (S2.out _ _ (hN5.bel ?_))) ?_; (focus (repeat (first | with_reducible exact Bel.refl _ | with_reducible assumption | apply Bel.ext | apply Bel.alloc | apply Bel.drew | exact Bel.refl _))); (focus (repeat (first | with_reducible exact Bel.refl _ | with_reducible assumption | apply Bel.ext | apply Bel.alloc | apply Bel.drew | exact Bel.refl _))); rintro ee ww ⟨v3, _, rfl, rfl, hM⟩) | (go_at_call 20; refine Calls.mono (mem_ret hM ?_ (eqInt64S_c _ _ ys ys _ (Rd.bel (rd_of hM 0 rfl) ?_) (Rd.bel (rd_of hM 2 rfl) ?_))) ?_; (focus (repeat (first | with_reducible exact Bel.refl _ | with_reducible assumption | apply Bel.ext | apply Bel.alloc | apply Bel.drew | exact Bel.refl _))); (focus (repeat (first | with_reducible exact Bel.refl _ | with_reducible assumption | apply Bel.ext | apply Bel.alloc | apply Bel.drew | exact Bel.refl _))); (focus (repeat (first | with_reducible exact Bel.refl _ | with_reducible assumption | apply Bel.ext | apply Bel.alloc | apply Bel.drew | exact Bel.refl _))); rintro ee ww ⟨rfl, _, rfl, hM⟩) | (go_at_call 33; refine args_guard hM 1 rfl (by with_reducible rfl) ?_; refine Calls.mono (mem_ret hM ?_ (heldInt64S_c _ w.heap.size 2 ys.length 1 _ (own_bel (hM.own 1 _ rfl) ?_) (by omega) (by omega) (by omega))) ?_; (focus (repeat (first | with_reducible exact Bel.refl _ | with_reducible assumption | apply Bel.ext | apply Bel.alloc | apply Bel.drew | exact Bel.refl _))); (focus (repeat (first | with_reducible exact Bel.refl _ | with_reducible assumption | apply Bel.ext | apply Bel.alloc | apply Bel.drew | exact Bel.refl _))); rintro ee ww ⟨rfl, _, rfl, hM⟩))
  go_ret
  exact ⟨H.out ▸ rfl, ext_ex (by (repeat (first | with_reducible exact Bel.refl _ | with_reducible assumption | apply Bel.ext | apply Bel.alloc | apply Bel.drew | exact Bel.refl _ | refine Bel.set ?_ (by first | (simp; done) | (simp [go_sem]; done) | omega) _)) : Bel w _)⟩

set_option maxRecDepth 100000 in
theorem lifted (os : Os) (started : os.Started) (H : Type) (enc : TypeId × Value → H) :
    ReturnsInHanded {} Try.checked os 11 .any (Rows.fnExactGreedyAssignmentSpec.pre6 enc Try.prog Try.f11 Rows.fnExactGreedyAssignmentRow.domain false) (Rows.fnExactGreedyAssignmentSpec.post enc Try.prog Try.f11 false true false false) := by
  refine returnsInHanded_of_change (C := Try.checked) own started (by kernel_rfl) Try.func11
    (ChangeSpec.witness6 (enc := enc) (C := Try.checked) false ⟨#[], #[.slice none 0 0], []⟩ 8 (by kernel_rfl) (by kernel_rfl) (by kernel_rfl) (by kernel_rfl)) ?_
  intro W base args ds gs before hval0 hW _ _
  have hval : ∀ (j : Nat) t v, Try.f11.params[j]? = some t → args[j]? = some v → Value.okWide Try.prog W .any base t v := hval0
  have hW' := hW
  obtain ⟨p, q, hA0, hV, rfl, hfz, hnd⟩ := hW
  have hA : DataW.TrodAll enc Try.prog W 0 (fun _ => true) true Try.f11.params.toList args.toList ds p := hA0
  have hlt : ∀ x ∈ p, x.block < W.heap.size := fun x hx => hW'.lt x (by simp [hx])
  rw [Try.params11] at hA hval
  have hK := hA
  obtain ⟨v0, vs0, d0, ds0, p0, q0, hargs, rfl, rfl, h0, r0⟩ := trodAll_cons hA
  obtain ⟨rfl, rfl, rfl⟩ := trodAll_nil r0
  obtain rfl : args = #[v0] := by cases args; simp_all
  obtain ⟨rfl, rfl⟩ := trodVars_none hV
  obtain ⟨a0, n0, cp0, xs0, rfl, hs0⟩ := open_slN Try.underlying22 Try.underlying27 Try.underlying2 (by kernel_rfl) (by kernel_rfl) (hval 0 22 v0 rfl rfl) h0
  refine (walk a0 n0 cp0 xs0 W hs0).mono fun e W' ⟨he, g, hg⟩ => ?_
  subst he
  have hb : Below W.heap.size W W' := by rw [hg]; exact ext_below W g
  have hARG := trodAll_below hb _ (by kernel_rfl) hlt hK
  exact ⟨_, rfl, [d0], [], _, [], p0 ++ ([]), [], hW', trodAll_cons_mk (shut_bool Try.underlying4 _) trodAll_mk0, hARG, rfl, hb.frame _, fun h => by cases h⟩

theorem over : Rows.fnExactGreedyAssignmentRow.holds Try.pinned (OpenSpec.ofChange Rows.fnExactGreedyAssignmentSpec) :=
  OpenClaim.holds_of_wide 11 Try.f11 rfl rfl rfl rfl rfl rfl rfl ⟨rfl, rfl, rfl, rfl, rfl⟩ rfl rfl rfl rfl rfl (by kernel_rfl) Try.func11 (by kernel_rfl)
    (of_decide_eq_true (by kernel_rfl)) (by unfold Func.isWrapper; first | (rw [if_pos (by decide +kernel)]; kernel_rfl) | (rw [if_neg (by decide +kernel)]; exact ⟨rfl, rfl⟩))
    (fun os started H enc _ => lifted os started H enc)

theorem proved : Rows.FnExactGreedyAssignmentSaid := over
end Go.Proofs.Ythahkoclkjfkdaa.lawGreedyAssignment
