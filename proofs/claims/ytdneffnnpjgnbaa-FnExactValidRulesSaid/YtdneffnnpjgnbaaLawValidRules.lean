/- 'FnExactValidRules' returns true, whatever the rules; no condition. -/
import Derived.Test.YtdneffnnpjgnbaaValidR
import Derived.Test.YtdneffnnpjgnbaaOpenR
namespace Go.Proofs.Ytdneffnnpjgnbaa.lawValidRules
open Go.ChangeShapes Go.WideShapes Go.ChangeAt Go.RowKit

set_option maxHeartbeats 8000000 in
theorem walk (a : Option Addr) (n c : Nat) (xs : List RuleD) (w : World) (hs : Sl celR w a n c xs) (hz : ∀ x ∈ xs, x.1.size ≤ maxLen) :
    Calls Try.prog 5 #[.slice a n c] w (Ret (.bool true) w) := by
  refine hide_ret fun v H => ?_
  have S0 := Lib.hid (fun u w hu => szRuleS_c u xs 1048576 (by omega) (by omega) hz w hu)
  have hr : ∀ x, Bel w x → Rd celR x (.slice a n c) xs := fun x hx => hs.rd.bel hx
  have hle := szAll_le xs 1048576 (by omega)
  have HLE := Lib.hid hle
  clear hle
  have S1 := Lib.hid (fun u w hu => sValidRules_c u xs w hu)
  have S2 := Lib.hid (fun u w hu => ValidRules_c u xs w hu)
  generalize rulesB xs = q at *
  have hq : (q != q) = false := by simp
  have HZ := Lib.hid hz
  clear hz hs
  generalize szAll 1048576 xs = m at *
  by_cases hm : m < 0
  · go_enter Try.func5, Try.ntmps5
    go_wp2_with (first | (go_at_call 7; refine Calls.mono (S0.out _ _ (hr _ ?_)) ?_; (focus (repeat (first | with_reducible exact Bel.refl _ | with_reducible assumption | apply Bel.ext | apply Bel.alloc | apply Bel.drew | exact Bel.refl _))); rintro ee ww ⟨rfl, _, rfl⟩))
    go_ret
    exact Ret.mk H.out (by (repeat (first | with_reducible exact Bel.refl _ | with_reducible assumption | apply Bel.ext | apply Bel.alloc | apply Bel.drew | exact Bel.refl _ | refine Bel.set ?_ (by first | (simp; done) | (simp [go_sem]; done) | omega) _)) : Bel _ _)
  have hlen : xs.length ≤ 1000000000 := by have := HLE.out.2.2 (by omega); omega
  go_enter Try.func5, Try.ntmps5
  go_wp2_with (first | (go_at_call 7; refine Calls.mono (S0.out _ _ (hr _ ?_)) ?_; (focus (repeat (first | with_reducible exact Bel.refl _ | with_reducible assumption | apply Bel.ext | apply Bel.alloc | apply Bel.drew | exact Bel.refl _))); rintro ee ww ⟨rfl, _, rfl⟩) | (go_at_call 9; refine Calls.mono (toRuleS_c _ xs _ (hr _ ?_) hlen) ?_; (focus (repeat (first | with_reducible exact Bel.refl _ | with_reducible assumption | apply Bel.ext | apply Bel.alloc | apply Bel.drew | exact Bel.refl _))); rintro ee ww ⟨_, _, rfl, rfl, _⟩) | (go_at_call 17; refine Calls.mono (S1.out _ _ ?_) ?_; (focus (apply Rd.bel; (focus (first | assumption | (apply rd_of_row; assumption))); (repeat (first | with_reducible exact Bel.refl _ | with_reducible assumption | apply Bel.ext | apply Bel.alloc | apply Bel.drew | exact Bel.refl _)))); rintro ee ww ⟨rfl, _, rfl⟩) | (go_at_call 18; refine Calls.mono (S2.out _ _ ?_) ?_; (focus (apply Rd.bel; (focus (first | assumption | (apply rd_of_row; assumption))); (repeat (first | with_reducible exact Bel.refl _ | with_reducible assumption | apply Bel.ext | apply Bel.alloc | apply Bel.drew | exact Bel.refl _)))); rintro ee ww ⟨rfl, _, rfl⟩) | (go_at_call 11; refine Calls.mono (eqRuleS_c _ _ xs xs _ ?_ ?_) ?_; (focus (apply Rd.bel; (focus (first | assumption | (apply rd_of_row; assumption))); (repeat (first | with_reducible exact Bel.refl _ | with_reducible assumption | apply Bel.ext | apply Bel.alloc | apply Bel.drew | exact Bel.refl _)))); (focus (apply Rd.bel; (focus (first | assumption | (apply rd_of_row; assumption))); (repeat (first | with_reducible exact Bel.refl _ | with_reducible assumption | apply Bel.ext | apply Bel.alloc | apply Bel.drew | exact Bel.refl _)))); rintro ee ww ⟨rfl, _, rfl⟩))
  go_ret
  exact Ret.mk H.out (by (repeat (first | with_reducible exact Bel.refl _ | with_reducible assumption | apply Bel.ext | apply Bel.alloc | apply Bel.drew | exact Bel.refl _ | refine Bel.set ?_ (by first | (simp; done) | (simp [go_sem]; done) | omega) _)) : Bel _ _)

set_option maxRecDepth 100000 in
theorem lifted (os : Os) (started : os.Started) (H : Type) (enc : TypeId × Value → H) :
    ReturnsInHanded {} Try.checked os 5 .any (Rows.fnExactValidRulesSpec.pre6 enc Try.prog Try.f5 Rows.fnExactValidRulesRow.domain false) (Rows.fnExactValidRulesSpec.post enc Try.prog Try.f5 false true false false) := by
  refine returnsInHanded_of_change (C := Try.checked) own started (by kernel_rfl) Try.func5
    (ChangeSpec.witness6 (enc := enc) (C := Try.checked) false ⟨#[], #[.slice none 0 0], []⟩ 8 (by kernel_rfl) (by kernel_rfl) (by kernel_rfl) (by kernel_rfl)) ?_
  intro W base args ds gs before hval0 hW _ _
  have hval : ∀ (j : Nat) t v, Try.f5.params[j]? = some t → args[j]? = some v → Value.okWide Try.prog W .any base t v := hval0
  have hW' := hW
  obtain ⟨p, q, hA0, hV, rfl, hfz, hnd⟩ := hW
  have hA : DataW.TrodAll enc Try.prog W 0 (fun _ => true) true Try.f5.params.toList args.toList ds p := hA0
  have hlt : ∀ x ∈ p, x.block < W.heap.size := fun x hx => hW'.lt x (by simp [hx])
  rw [Try.params5] at hA hval
  have hK := hA
  obtain ⟨v0, vs0, d0, ds0, p0, q0, hargs, rfl, rfl, h0, r0⟩ := trodAll_cons hA
  obtain ⟨rfl, rfl, rfl⟩ := trodAll_nil r0
  obtain rfl : args = #[v0] := by cases args; simp_all
  obtain ⟨rfl, rfl⟩ := trodVars_none hV
  obtain ⟨a0, n0, cp0, xs0, rfl, hs0, hz0⟩ := open_slR Try.underlying22 Try.underlying29 (by kernel_rfl) (by kernel_rfl) Try.underlying9 Try.underlying2 Try.underlying2 Try.underlying2 Try.underlying2 Try.underlying2 (hval 0 22 v0 rfl rfl) h0
  refine (walk a0 n0 cp0 xs0 W hs0 hz0).mono fun e W' ⟨he, g, hg⟩ => ?_
  subst he
  have hb : Below W.heap.size W W' := by rw [hg]; exact ext_below W g
  have hARG := trodAll_below hb _ (by kernel_rfl) hlt hK
  exact ⟨_, rfl, [d0], [], _, [], p0 ++ ([]), [], hW', trodAll_cons_mk (shut_bool Try.underlying4 _) trodAll_mk0, hARG, rfl, hb.frame _, fun h => by cases h⟩

theorem over : Rows.fnExactValidRulesRow.holds Try.pinned (OpenSpec.ofChange Rows.fnExactValidRulesSpec) :=
  OpenClaim.holds_of_wide 5 Try.f5 rfl rfl rfl rfl rfl rfl rfl ⟨rfl, rfl, rfl, rfl, rfl⟩ rfl rfl rfl rfl rfl (by kernel_rfl) Try.func5 (by kernel_rfl)
    (of_decide_eq_true (by kernel_rfl)) (by unfold Func.isWrapper; first | (rw [if_pos (by decide +kernel)]; kernel_rfl) | (rw [if_neg (by decide +kernel)]; exact ⟨rfl, rfl⟩))
    (fun os started H enc _ => lifted os started H enc)

theorem proved : Rows.FnExactValidRulesSaid := over
end Go.Proofs.Ytdneffnnpjgnbaa.lawValidRules
