/- 'FnExactSameRules' returns true, whatever the rules; no condition. -/
import Derived.Test.YtdneffnnpjgnbaaSameR
import Derived.Test.YtdneffnnpjgnbaaOpenR
namespace Go.Proofs.Ytdneffnnpjgnbaa.lawSameRules
open Go.ChangeShapes Go.WideShapes Go.ChangeAt Go.RowKit

set_option maxHeartbeats 8000000 in
theorem walk (a : Option Addr) (n c : Nat) (xs : List RuleD) (a' : Option Addr) (n' c' : Nat) (ys : List RuleD) (w : World) (hs : Sl celR w a n c xs) (hz : ∀ x ∈ xs, x.1.size ≤ maxLen) (hs' : Sl celR w a' n' c' ys) (hz' : ∀ x ∈ ys, x.1.size ≤ maxLen) :
    Calls Try.prog 3 #[.slice a n c, .slice a' n' c'] w (Ret (.bool true) w) := by
  refine hide_ret fun v H => ?_
  have S0 := Lib.hid (fun u w hu => szRuleS_c u xs 1048576 (by omega) (by omega) hz w hu)
  have hr : ∀ x, Bel w x → Rd celR x (.slice a n c) xs := fun x hx => hs.rd.bel hx
  have hr' : ∀ x, Bel w x → Rd celR x (.slice a' n' c') ys := fun x hx => hs'.rd.bel hx
  have HLE := Lib.hid (szAll_le xs 1048576 (by omega))
  have S1 := Lib.hid (fun u v w hu hv => sSameRules_c u v xs ys w hu hv)
  have S2 := Lib.hid (fun u v w hu hv => SameRules_c u v xs ys w hu hv)
  generalize decide (xs = ys) = q at *
  have hq : (q != q) = false := by simp
  have HZ' := Lib.hid hz'
  clear hz hz' hs hs'
  generalize szAll 1048576 xs = m at *
  by_cases hm : m < 0
  · go_enter Try.func3, Try.ntmps3
    go_wp2_with (first | (go_at_call 7; refine Calls.mono (S0.out _ _ (hr _ ?_)) ?_; (focus (repeat (first | with_reducible exact Bel.refl _ | with_reducible assumption | apply Bel.ext | apply Bel.alloc | apply Bel.drew | exact Bel.refl _))); rintro ee ww ⟨rfl, _, rfl⟩))
    go_ret
    exact Ret.mk H.out (by (repeat (first | with_reducible exact Bel.refl _ | with_reducible assumption | apply Bel.ext | apply Bel.alloc | apply Bel.drew | exact Bel.refl _ | refine Bel.set ?_ (by first | (simp; done) | (simp [go_sem]; done) | omega) _)) : Bel _ _)
  have hlen : xs.length ≤ 1000000000 := by have := HLE.out.2.2 (by omega); omega
  have hm1 : m ≤ 1048576 := HLE.out.1
  have T0 := Lib.hid (fun u w hu => szRuleS_c u ys m (by omega) (by omega) HZ'.out w hu)
  have HLE' := Lib.hid (szAll_le ys m (by omega))
  generalize szAll m ys = m' at *
  by_cases hm' : m' < 0
  · go_enter Try.func3, Try.ntmps3
    go_wp2_with (first | (go_at_call 7; refine args_g2 (.slice a n c) (by with_reducible rfl) ?_; refine Calls.mono (S0.out _ _ (hr _ ?_)) ?_; (focus (repeat (first | with_reducible exact Bel.refl _ | with_reducible assumption | apply Bel.ext | apply Bel.alloc | apply Bel.drew | exact Bel.refl _))); rintro ee ww ⟨rfl, _, rfl⟩) | (go_at_call 7; refine Calls.mono (T0.out _ _ (hr' _ ?_)) ?_; (focus (repeat (first | with_reducible exact Bel.refl _ | with_reducible assumption | apply Bel.ext | apply Bel.alloc | apply Bel.drew | exact Bel.refl _))); rintro ee ww ⟨rfl, _, rfl⟩))
    go_ret
    exact Ret.mk H.out (by (repeat (first | with_reducible exact Bel.refl _ | with_reducible assumption | apply Bel.ext | apply Bel.alloc | apply Bel.drew | exact Bel.refl _ | refine Bel.set ?_ (by first | (simp; done) | (simp [go_sem]; done) | omega) _)) : Bel _ _)
  have hlen' : ys.length ≤ 1000000000 := by have := HLE'.out.2.2 (by omega); omega
  clear HLE HLE'
  go_enter Try.func3, Try.ntmps3
  go_wp2_with (first | (go_at_call 7; refine args_g2 (.slice a n c) (by with_reducible rfl) ?_; refine Calls.mono (S0.out _ _ (hr _ ?_)) ?_; (focus (repeat (first | with_reducible exact Bel.refl _ | with_reducible assumption | apply Bel.ext | apply Bel.alloc | apply Bel.drew | exact Bel.refl _))); rintro ee ww ⟨rfl, _, rfl⟩) | (go_at_call 7; refine Calls.mono (T0.out _ _ (hr' _ ?_)) ?_; (focus (repeat (first | with_reducible exact Bel.refl _ | with_reducible assumption | apply Bel.ext | apply Bel.alloc | apply Bel.drew | exact Bel.refl _))); rintro ee ww ⟨rfl, _, rfl⟩) | (go_at_call 9; refine args_g1 (.slice a n c) (by with_reducible rfl) ?_; refine Calls.mono (toRuleS_c _ xs _ (hr _ ?_) hlen) ?_; (focus (repeat (first | with_reducible exact Bel.refl _ | with_reducible assumption | apply Bel.ext | apply Bel.alloc | apply Bel.drew | exact Bel.refl _))); rintro ee ww ⟨_, _, rfl, rfl, _⟩) | (go_at_call 9; refine Calls.mono (toRuleS_c _ ys _ (hr' _ ?_) hlen') ?_; (focus (repeat (first | with_reducible exact Bel.refl _ | with_reducible assumption | apply Bel.ext | apply Bel.alloc | apply Bel.drew | exact Bel.refl _))); rintro ee ww ⟨_, _, rfl, rfl, _⟩) | (go_at_call 8; refine Calls.mono (S1.out _ _ _ ?_ ?_) ?_; (focus (apply Rd.bel; (focus (first | assumption | (apply rd_of_row; assumption))); (repeat (first | with_reducible exact Bel.refl _ | with_reducible assumption | apply Bel.ext | apply Bel.alloc | apply Bel.drew | exact Bel.refl _)))); (focus (apply Rd.bel; (focus (first | assumption | (apply rd_of_row; assumption))); (repeat (first | with_reducible exact Bel.refl _ | with_reducible assumption | apply Bel.ext | apply Bel.alloc | apply Bel.drew | exact Bel.refl _)))); rintro ee ww ⟨rfl, _, rfl⟩) | (go_at_call 10; refine Calls.mono (S2.out _ _ _ ?_ ?_) ?_; (focus (apply Rd.bel; (focus (first | assumption | (apply rd_of_row; assumption))); (repeat (first | with_reducible exact Bel.refl _ | with_reducible assumption | apply Bel.ext | apply Bel.alloc | apply Bel.drew | exact Bel.refl _)))); (focus (apply Rd.bel; (focus (first | assumption | (apply rd_of_row; assumption))); (repeat (first | with_reducible exact Bel.refl _ | with_reducible assumption | apply Bel.ext | apply Bel.alloc | apply Bel.drew | exact Bel.refl _)))); rintro ee ww ⟨rfl, _, rfl⟩) | (go_at_call 11; refine Calls.mono (eqRuleS_c _ _ xs xs _ ?_ ?_) ?_; (focus (apply Rd.bel; (focus (first | assumption | (apply rd_of_row; assumption))); (repeat (first | with_reducible exact Bel.refl _ | with_reducible assumption | apply Bel.ext | apply Bel.alloc | apply Bel.drew | exact Bel.refl _)))); (focus (apply Rd.bel; (focus (first | assumption | (apply rd_of_row; assumption))); (repeat (first | with_reducible exact Bel.refl _ | with_reducible assumption | apply Bel.ext | apply Bel.alloc | apply Bel.drew | exact Bel.refl _)))); rintro ee ww ⟨rfl, _, rfl⟩) | (go_at_call 11; refine Calls.mono (eqRuleS_c _ _ ys ys _ ?_ ?_) ?_; (focus (apply Rd.bel; (focus (first | assumption | (apply rd_of_row; assumption))); (repeat (first | with_reducible exact Bel.refl _ | with_reducible assumption | apply Bel.ext | apply Bel.alloc | apply Bel.drew | exact Bel.refl _)))); (focus (apply Rd.bel; (focus (first | assumption | (apply rd_of_row; assumption))); (repeat (first | with_reducible exact Bel.refl _ | with_reducible assumption | apply Bel.ext | apply Bel.alloc | apply Bel.drew | exact Bel.refl _)))); rintro ee ww ⟨rfl, _, rfl⟩))
  go_ret
  exact Ret.mk H.out (by (repeat (first | with_reducible exact Bel.refl _ | with_reducible assumption | apply Bel.ext | apply Bel.alloc | apply Bel.drew | exact Bel.refl _ | refine Bel.set ?_ (by first | (simp; done) | (simp [go_sem]; done) | omega) _)) : Bel _ _)

set_option maxRecDepth 100000 in
theorem lifted (os : Os) (started : os.Started) (H : Type) (enc : TypeId × Value → H) :
    ReturnsInHanded {} Try.checked os 3 .any (Rows.fnExactSameRulesSpec.pre6 enc Try.prog Try.f3 Rows.fnExactSameRulesRow.domain false) (Rows.fnExactSameRulesSpec.post enc Try.prog Try.f3 false true false false) := by
  refine returnsInHanded_of_change (C := Try.checked) own started (by kernel_rfl) Try.func3
    (ChangeSpec.witness6 (enc := enc) (C := Try.checked) false ⟨#[], #[.slice none 0 0, .slice none 0 0], []⟩ 8 (by kernel_rfl) (by kernel_rfl) (by kernel_rfl) (by kernel_rfl)) ?_
  intro W base args ds gs before hval0 hW _ _
  have hval : ∀ (j : Nat) t v, Try.f3.params[j]? = some t → args[j]? = some v → Value.okWide Try.prog W .any base t v := hval0
  have hW' := hW
  obtain ⟨p, q, hA0, hV, rfl, hfz, hnd⟩ := hW
  have hA : DataW.TrodAll enc Try.prog W 0 (fun _ => true) true Try.f3.params.toList args.toList ds p := hA0
  have hlt : ∀ x ∈ p, x.block < W.heap.size := fun x hx => hW'.lt x (by simp [hx])
  rw [Try.params3] at hA hval
  have hK := hA
  obtain ⟨v0, vs0, d0, ds0, p0, q0, hargs, rfl, rfl, h0, r0⟩ := trodAll_cons hA
  obtain ⟨v1, vs1, d1, ds1, p1, q1, rfl, rfl, rfl, h1, r1⟩ := trodAll_cons r0
  obtain ⟨rfl, rfl, rfl⟩ := trodAll_nil r1
  obtain rfl : args = #[v0, v1] := by cases args; simp_all
  obtain ⟨rfl, rfl⟩ := trodVars_none hV
  obtain ⟨a0, n0, cp0, xs0, rfl, hs0, hz0⟩ := open_slR Try.underlying22 Try.underlying29 (by kernel_rfl) (by kernel_rfl) Try.underlying9 Try.underlying2 Try.underlying2 Try.underlying2 Try.underlying2 Try.underlying2 (hval 0 22 v0 rfl rfl) h0
  obtain ⟨a1, n1, cp1, xs1, rfl, hs1, hz1⟩ := open_slR Try.underlying22 Try.underlying29 (by kernel_rfl) (by kernel_rfl) Try.underlying9 Try.underlying2 Try.underlying2 Try.underlying2 Try.underlying2 Try.underlying2 (hval 1 22 v1 rfl rfl) h1
  refine (walk a0 n0 cp0 xs0 a1 n1 cp1 xs1 W hs0 hz0 hs1 hz1).mono fun e W' ⟨he, g, hg⟩ => ?_
  subst he
  have hb : Below W.heap.size W W' := by rw [hg]; exact ext_below W g
  have hARG := trodAll_below hb _ (by kernel_rfl) hlt hK
  exact ⟨_, rfl, [d0, d1], [], _, [], p0 ++ (p1 ++ ([])), [], hW', trodAll_cons_mk (shut_bool Try.underlying4 _) trodAll_mk0, hARG, rfl, hb.frame _, fun h => by cases h⟩

theorem over : Rows.fnExactSameRulesRow.holds Try.pinned (OpenSpec.ofChange Rows.fnExactSameRulesSpec) :=
  OpenClaim.holds_of_wide 3 Try.f3 rfl rfl rfl rfl rfl rfl rfl ⟨rfl, rfl, rfl, rfl, rfl⟩ rfl rfl rfl rfl rfl (by kernel_rfl) Try.func3 (by kernel_rfl)
    (of_decide_eq_true (by kernel_rfl)) (by unfold Func.isWrapper; first | (rw [if_pos (by decide +kernel)]; kernel_rfl) | (rw [if_neg (by decide +kernel)]; exact ⟨rfl, rfl⟩))
    (fun os started H enc _ => lifted os started H enc)

theorem proved : Rows.FnExactSameRulesSaid := over
end Go.Proofs.Ytdneffnnpjgnbaa.lawSameRules
