/- 'FnExactRoundedFit' returns true, whatever the list; no condition. -/
import Derived.Test.YtlnpfggcmjljbaaFit4
import Derived.Test.YtlnpfggcmjljbaaOpen
namespace Go.Proofs.Ytlnpfggcmjljbaa.lawRoundedFit
open Go.ChangeShapes Go.WideShapes Go.ChangeAt Go.RowKit

set_option maxHeartbeats 8000000 in
theorem walk (a_xs : Option Addr) (n_xs c_xs : Nat) (xs : List (Int × Int)) (w : World) (hs_xs : Sl cel2 w a_xs n_xs c_xs xs) :
    Calls Try.prog 13 #[.slice a_xs n_xs c_xs] w (Ret (.bool true) w) := by
  refine hide_ret fun v H => ?_
  have hcap_xs := hs_xs.le; have hmax_xs := hs_xs.cap
  unfold maxLen at hmax_xs
  have HL_xs := Lib.hid hs_xs.len
  have hr_xs : ∀ x, Bel w x → Rd cel2 x (.slice a_xs n_xs c_xs) xs := fun x hx => hs_xs.rd.bel hx
  have T1 := fun u w hu => sRoundedFit_c u xs w hu
  have T2 := fun u w hu => RoundedFit_c u xs w hu
  generalize rfitI xs = s at *
  obtain ⟨a, b, e⟩ := s
  dsimp only at T1 T2
  have S1 := Lib.hid T1
  have S2 := Lib.hid T2
  clear T1 T2
  have hq : (e != e) = false := by simp
  by_cases hn_xs : (1048576 : Int) < n_xs
  · go_enter Try.func13, Try.ntmps13
    go_wp2_with (first | (go_at_call 14; refine (szMinimumS_c _ _ _ _ (by omega) (by omega) (by omega) _).mono ?_; rintro ee ww ⟨rfl, rfl⟩))
    all_goals (try ((refine region_ext (by kernel_rfl) (by kernel_rfl) ?_; (repeat (go_big_quiet_step (first | (go_at_call 14; exact Calls.in_same (szMinimumS_c _ _ _ _ (by omega) (by omega) (by omega) _))))); refine wpQuiet_nil ?_; rintro _ ⟨_, rfl⟩); go_wp2_with (first | (go_at_call 14; refine (szMinimumS_c _ _ _ _ (by omega) (by omega) (by omega) _).mono ?_; rintro ee ww ⟨rfl, rfl⟩))))
    go_ret
    refine Ret.mk ?_ (?_ : Bel _ _)
    · exact H.out
    · (repeat (first | exact Bel.refl _ | apply Bel.ext | apply Bel.alloc | apply Bel.drew | refine Bel.set ?_ (by first | (simp; done) | (simp [go_sem]; done) | omega) _))
  have hlen_xs : xs.length ≤ 1000000000 := by rw [← HL_xs.out]; omega
  go_enter Try.func13, Try.ntmps13
  go_wp2_with (first | (go_at_call 14; refine Calls.mono (szMinimumS_c _ _ _ _ (by omega) (by omega) (by omega) _) ?_; rintro ee ww ⟨rfl, rfl⟩) | (go_at_call 16; refine Calls.mono (toMinimumS_c _ xs _ (hr_xs _ ?_) hlen_xs) ?_; (focus (repeat (first | exact Bel.refl _ | apply Bel.ext | apply Bel.alloc | apply Bel.drew))); rintro ee ww ⟨_, _, rfl, rfl, _⟩) | (go_at_call 47; refine Calls.mono (S1.out _ _ ?_) ?_; (focus (apply Rd.bel; (focus (apply rd_of_row; assumption)); (repeat (first | exact Bel.refl _ | apply Bel.ext | apply Bel.alloc | apply Bel.drew)))); rintro ee ww ⟨rfl, _, rfl⟩) | (go_at_call 48; refine Calls.mono (S2.out _ _ ?_) ?_; (focus (apply Rd.bel; (focus (apply rd_of_row; assumption)); (repeat (first | exact Bel.refl _ | apply Bel.ext | apply Bel.alloc | apply Bel.drew)))); rintro ee ww ⟨rfl, _, rfl⟩) | (go_at_call 49; refine Calls.mono (eqEphemeris_c _ _ _ _ _) ?_; rintro ee ww ⟨rfl, _, rfl⟩) | (go_at_call 18; refine Calls.mono (eqMinimumS_c _ _ xs xs _ ?_ ?_) ?_; (focus (apply Rd.bel; (focus (apply rd_of_row; assumption)); (repeat (first | exact Bel.refl _ | apply Bel.ext | apply Bel.alloc | apply Bel.drew)))); (focus (apply Rd.bel; (focus (apply rd_of_row; assumption)); (repeat (first | exact Bel.refl _ | apply Bel.ext | apply Bel.alloc | apply Bel.drew)))); rintro ee ww ⟨rfl, _, rfl⟩))
  all_goals go_ret
  all_goals refine Ret.mk ?_ (?_ : Bel _ _)
  all_goals first | exact H.out | (repeat (first | exact Bel.refl _ | apply Bel.ext | apply Bel.alloc | apply Bel.drew | refine Bel.set ?_ (by first | (simp; done) | (simp [go_sem]; done) | omega) _))

set_option maxRecDepth 100000 in
theorem lifted (os : Os) (started : os.Started) (H : Type) (enc : TypeId × Value → H) :
    ReturnsInHanded {} Try.checked os 13 .any (Rows.fnExactRoundedFitSpec.pre6 enc Try.prog Try.f13 Rows.fnExactRoundedFitRow.domain false) (Rows.fnExactRoundedFitSpec.post enc Try.prog Try.f13 false true false false) := by
  refine returnsInHanded_of_change (C := Try.checked) own started (by kernel_rfl) Try.func13
    (ChangeSpec.witness6 (enc := enc) (C := Try.checked) false ⟨#[], #[.slice none 0 0], []⟩ 8 (by kernel_rfl) (by kernel_rfl) (by kernel_rfl) (by kernel_rfl)) ?_
  intro W base args ds gs before hval0 hW _ _
  have hval : ∀ (j : Nat) t v, Try.f13.params[j]? = some t → args[j]? = some v → Value.okWide Try.prog W .any base t v := hval0
  have hW' := hW
  obtain ⟨p, q, hA0, hV, rfl, hfz, hnd⟩ := hW
  have hA : DataW.TrodAll enc Try.prog W 0 (fun _ => true) true Try.f13.params.toList args.toList ds p := hA0
  have hlt : ∀ x ∈ p, x.block < W.heap.size := fun x hx => hW'.lt x (by simp [hx])
  rw [Try.params13] at hA hval
  have hK := hA
  obtain ⟨v0, vs0, d0, ds0, p0, q0, hargs, rfl, rfl, h0, r0⟩ := trodAll_cons hA
  obtain ⟨rfl, rfl, rfl⟩ := trodAll_nil r0
  obtain rfl : args = #[v0] := by cases args; simp_all
  obtain ⟨rfl, rfl⟩ := trodVars_none hV
  obtain ⟨a0, n0, cp0, xs0, rfl, hs0⟩ := open_sl2 Try.underlying22 Try.underlying45 (by kernel_rfl) rfl rfl (by kernel_rfl) (by kernel_rfl) (by kernel_rfl) (by kernel_rfl) (hval 0 22 v0 rfl rfl) h0
  refine (walk a0 n0 cp0 xs0 W hs0).mono fun e W' ⟨he, g, hg⟩ => ?_
  subst he
  have hb : Below W.heap.size W W' := by rw [hg]; exact ext_below W g
  have hARG := trodAll_below hb _ (by kernel_rfl) hlt hK
  exact ⟨_, rfl, [d0], [], _, [], p0 ++ ([]), [], hW', trodAll_cons_mk (shut_bool Try.underlying4 _) trodAll_mk0, hARG, rfl, hb.frame _, fun h => by cases h⟩

theorem over : Rows.fnExactRoundedFitRow.holds Try.pinned (OpenSpec.ofChange Rows.fnExactRoundedFitSpec) :=
  OpenClaim.holds_of_wide 13 Try.f13 rfl rfl rfl rfl rfl rfl rfl ⟨rfl, rfl, rfl, rfl, rfl⟩ rfl rfl rfl rfl rfl (by kernel_rfl) Try.func13 (by kernel_rfl)
    (of_decide_eq_true (by kernel_rfl)) (by unfold Func.isWrapper; first | (rw [if_pos (by decide +kernel)]; kernel_rfl) | (rw [if_neg (by decide +kernel)]; exact ⟨rfl, rfl⟩))
    (fun os started H enc _ => lifted os started H enc)

theorem proved : Rows.FnExactRoundedFitSaid := over
end Go.Proofs.Ytlnpfggcmjljbaa.lawRoundedFit
