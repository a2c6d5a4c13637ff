/- 'FnExactMatchesRule' returns true, whatever the rule and the facts; no condition. -/
import Derived.Test.YtdneffnnpjgnbaaMatch
import Derived.Test.YtdneffnnpjgnbaaMem
import Derived.Test.YtdneffnnpjgnbaaOpenR
namespace Go.Proofs.Ytdneffnnpjgnbaa.lawMatchesRule
open Go.ChangeShapes Go.WideShapes Go.ChangeAt Go.RowKit

set_option maxHeartbeats 8000000 in
theorem walk (c : ByteArray) (a b p q s x y z : Int) (w : World) (hz : c.size ≤ maxLen) :
    Calls Try.prog 4 #[.agg #[.string c, .int .i64 a, .int .i64 b, .int .i64 p, .int .i64 q, .int .i64 s], .agg #[.int .i64 x, .int .i64 y, .int .i64 z]] w (Ret (.bool true) w) := by
  refine hide_ret fun v H => ?_
  have S0 := Lib.hid (fun w => szRule_c c a b p q s 1048576 (by omega) (by omega) hz w)
  have S1 := Lib.hid (fun w => sMatchesRule_c c a b p q s x y z w)
  have S2 := Lib.hid (fun w => MatchesRule_c c a b p q s x y z w)
  generalize matchesI c a b p q s x y z = m at *
  obtain ⟨s1, s2⟩ := m
  dsimp only at S1 S2
  have hq1 : (s1 != s1) = false := by simp
  have hq2 : (s2 != s2) = false := by simp
  unfold maxLen at hz
  by_cases hn : (1048576 : Int) < c.size
  · rw [if_pos hn] at S0
    go_enter Try.func4, Try.ntmps4
    go_wp2_with (first | (go_at_call 12; refine Calls.mono (S0.out _) ?_; rintro ee ww ⟨rfl, _, rfl⟩))
    go_ret
    refine Ret.mk ?_ (?_ : Bel _ _)
    · exact H.out
    · (repeat (first | with_reducible exact Bel.refl _ | with_reducible assumption | apply Bel.ext | apply Bel.alloc | apply Bel.drew | exact Bel.refl _ | refine Bel.set ?_ (by first | (simp; done) | (simp [go_sem]; done) | omega) _))
  rw [if_neg hn] at S0
  have hn2 : ¬ ((1048576 : Int) - c.size < 0) := by omega
  go_enter Try.func4, Try.ntmps4
  go_wp2_with (first | (go_at_call 12; refine Calls.mono (S0.out _) ?_; rintro ee ww ⟨rfl, _, rfl⟩))
  have hwA : Bel w ((w.alloc (.cells #[.string c, .int .i64 a, .int .i64 b, .int .i64 p, .int .i64 q, .int .i64 s] 29)).alloc (.cells #[.int .i64 x, .int .i64 y, .int .i64 z] 31)) := by (repeat (first | with_reducible exact Bel.refl _ | with_reducible assumption | apply Bel.ext | apply Bel.alloc | apply Bel.drew | exact Bel.refl _ | refine Bel.set ?_ (by first | (simp; done) | (simp [go_sem]; done) | omega) _))
  have hc : ∀ j u, ([.string c, .int .i64 a, .int .i64 b, .int .i64 p, .int .i64 q, .int .i64 s] : List Value)[j]? = some u → ((w.alloc (.cells #[.string c, .int .i64 a, .int .i64 b, .int .i64 p, .int .i64 q, .int .i64 s] 29)).alloc (.cells #[.int .i64 x, .int .i64 y, .int .i64 z] 31)).cell? ⟨w.heap.size, j, none⟩ = some u := by
    intro j u hj
    rcases j with _ | _ | _ | _ | _ | _ | j <;> simp at hj <;> subst hj <;> simp [go_sem]
  have hd : ∀ j u, ([.int .i64 x, .int .i64 y, .int .i64 z] : List Value)[j]? = some u → ((w.alloc (.cells #[.string c, .int .i64 a, .int .i64 b, .int .i64 p, .int .i64 q, .int .i64 s] 29)).alloc (.cells #[.int .i64 x, .int .i64 y, .int .i64 z] 31)).cell? ⟨w.heap.size + 1, j, none⟩ = some u := by
    intro j u hj
    rcases j with _ | _ | _ | j <;> simp at hj <;> subst hj <;> simp [go_sem]
  have hz0 : w.heap.size < ((w.alloc (.cells #[.string c, .int .i64 a, .int .i64 b, .int .i64 p, .int .i64 q, .int .i64 s] 29)).alloc (.cells #[.int .i64 x, .int .i64 y, .int .i64 z] 31)).heap.size := by simp; omega
  have hz1 : w.heap.size + 1 < ((w.alloc (.cells #[.string c, .int .i64 a, .int .i64 b, .int .i64 p, .int .i64 q, .int .i64 s] 29)).alloc (.cells #[.int .i64 x, .int .i64 y, .int .i64 z] 31)).heap.size := by simp
  generalize (w.alloc (.cells #[.string c, .int .i64 a, .int .i64 b, .int .i64 p, .int .i64 q, .int .i64 s] 29)).alloc (.cells #[.int .i64 x, .int .i64 y, .int .i64 z] 31) = A at *
  have hc0 := hc 0 _ rfl
  have hc1 := hc 1 _ rfl
  have hc2 := hc 2 _ rfl
  have hc3 := hc 3 _ rfl
  have hc4 := hc 4 _ rfl
  have hc5 := hc 5 _ rfl
  have hd0 := hd 0 _ rfl
  have hd1 := hd 1 _ rfl
  have hd2 := hd 2 _ rfl
  clear hc hd
  go_region_held3 (fun q_ => q_.cell? ⟨w.heap.size, 0, none⟩ = some (.string c) ∧ q_.cell? ⟨w.heap.size, 1, none⟩ = some (.int .i64 a) ∧ q_.cell? ⟨w.heap.size, 2, none⟩ = some (.int .i64 b) ∧ q_.cell? ⟨w.heap.size, 3, none⟩ = some (.int .i64 p) ∧ q_.cell? ⟨w.heap.size, 4, none⟩ = some (.int .i64 q) ∧ q_.cell? ⟨w.heap.size, 5, none⟩ = some (.int .i64 s) ∧ q_.cell? ⟨w.heap.size + 1, 0, none⟩ = some (.int .i64 x) ∧ q_.cell? ⟨w.heap.size + 1, 1, none⟩ = some (.int .i64 y) ∧ q_.cell? ⟨w.heap.size + 1, 2, none⟩ = some (.int .i64 z)) (simp [go_sem, *]) (first | (go_at_call 14; refine Calls.mono (toRule_c c a b p q s _) ?_; rintro ee ww ⟨rfl, _, rfl⟩) | (go_at_call 15; refine Calls.mono (toFacts_c x y z _) ?_; rintro ee ww ⟨rfl, _, rfl⟩) | (go_at_call 13; refine Calls.mono (S1.out _) ?_; rintro ee ww ⟨rfl, _, rfl⟩))
  go_wp2_with fail
  go_region_held3 (fun q_ => q_.cell? ⟨w.heap.size, 0, none⟩ = some (.string c) ∧ q_.cell? ⟨w.heap.size, 1, none⟩ = some (.int .i64 a) ∧ q_.cell? ⟨w.heap.size, 2, none⟩ = some (.int .i64 b) ∧ q_.cell? ⟨w.heap.size, 3, none⟩ = some (.int .i64 p) ∧ q_.cell? ⟨w.heap.size, 4, none⟩ = some (.int .i64 q) ∧ q_.cell? ⟨w.heap.size, 5, none⟩ = some (.int .i64 s) ∧ q_.cell? ⟨w.heap.size + 1, 0, none⟩ = some (.int .i64 x) ∧ q_.cell? ⟨w.heap.size + 1, 1, none⟩ = some (.int .i64 y) ∧ q_.cell? ⟨w.heap.size + 1, 2, none⟩ = some (.int .i64 z)) (simp [go_sem, *]) (first | (go_at_call 14; refine Calls.mono (toRule_c c a b p q s _) ?_; rintro ee ww ⟨rfl, _, rfl⟩) | (go_at_call 15; refine Calls.mono (toFacts_c x y z _) ?_; rintro ee ww ⟨rfl, _, rfl⟩) | (go_at_call 16; refine Calls.mono (S2.out _) ?_; rintro ee ww ⟨rfl, _, rfl⟩))
  go_wp2_with fail
  go_ret
  refine ⟨H.out ▸ rfl, ext_ex ?_⟩
  exact Below.trans hwA (Below.mono (by (repeat (first | with_reducible exact Bel.refl _ | with_reducible assumption | apply Bel.ext | apply Bel.alloc | apply Bel.drew | exact Bel.refl _ | refine Bel.set ?_ (by first | (simp; done) | (simp [go_sem]; done) | omega) _)) : Bel A _) hwA.size)

set_option maxRecDepth 100000 in
theorem lifted (os : Os) (started : os.Started) (H : Type) (enc : TypeId × Value → H) :
    ReturnsInHanded {} Try.checked os 4 .any (Rows.fnExactMatchesRuleSpec.pre6 enc Try.prog Try.f4 Rows.fnExactMatchesRuleRow.domain false) (Rows.fnExactMatchesRuleSpec.post enc Try.prog Try.f4 false true false false) := by
  refine returnsInHanded_of_change (C := Try.checked) own started (by kernel_rfl) Try.func4
    (ChangeSpec.witness6 (enc := enc) (C := Try.checked) false ⟨#[], #[.agg #[.string ByteArray.empty, .int .i64 0, .int .i64 0, .int .i64 0, .int .i64 0, .int .i64 0], .agg #[.int .i64 0, .int .i64 0, .int .i64 0]], []⟩ 8 (by kernel_rfl) (by kernel_rfl) (by kernel_rfl) (by kernel_rfl)) ?_
  intro W base args ds gs before hval0 hW _ _
  have hval : ∀ (j : Nat) t v, Try.f4.params[j]? = some t → args[j]? = some v → Value.okWide Try.prog W .any base t v := hval0
  have hW' := hW
  obtain ⟨p, q, hA0, hV, rfl, hfz, hnd⟩ := hW
  have hA : DataW.TrodAll enc Try.prog W 0 (fun _ => true) true Try.f4.params.toList args.toList ds p := hA0
  have hlt : ∀ x ∈ p, x.block < W.heap.size := fun x hx => hW'.lt x (by simp [hx])
  rw [Try.params4] at hA hval
  have hK := hA
  obtain ⟨v0, vs0, d0, ds0, p0, q0, hargs, rfl, rfl, h0, r0⟩ := trodAll_cons hA
  obtain ⟨v1, vs1, d1, ds1, p1, q1, rfl, rfl, rfl, h1, r1⟩ := trodAll_cons r0
  obtain ⟨rfl, rfl, rfl⟩ := trodAll_nil r1
  obtain rfl : args = #[v0, v1] := by cases args; simp_all
  obtain ⟨rfl, rfl⟩ := trodVars_none hV
  obtain ⟨x00, x01, x02, x03, x04, x05, rfl, hz0⟩ := open_rule Try.underlying29 (by kernel_rfl) (by kernel_rfl) Try.underlying9 Try.underlying2 Try.underlying2 Try.underlying2 Try.underlying2 Try.underlying2 (hval 0 29 v0 rfl rfl) h0
  obtain ⟨c10, c11, c12, y10, y11, y12, m1, rfl, -, -, hy10, hy11, hy12⟩ := Go.Joins.open_agg3 Try.underlying31 (by kernel_rfl) (by kernel_rfl) (hval 1 31 v1 rfl rfl) h1
  obtain ⟨x10, e10, -, w10⟩ := DataW.trod_int Try.underlying2 hy10
  obtain rfl : c10 = .int .i64 x10 := by simpa using e10
  obtain ⟨x11, e11, -, w11⟩ := DataW.trod_int Try.underlying2 hy11
  obtain rfl : c11 = .int .i64 x11 := by simpa using e11
  obtain ⟨x12, e12, -, w12⟩ := DataW.trod_int Try.underlying2 hy12
  obtain rfl : c12 = .int .i64 x12 := by simpa using e12
  refine (walk x00 x01 x02 x03 x04 x05 x10 x11 x12 W hz0).mono fun e W' ⟨he, g, hg⟩ => ?_
  subst he
  have hb : Below W.heap.size W W' := by rw [hg]; exact ext_below W g
  have hARG := trodAll_below hb _ (by kernel_rfl) hlt hK
  exact ⟨_, rfl, [d0, d1], [], _, [], p0 ++ (p1 ++ ([])), [], hW', trodAll_cons_mk (shut_bool Try.underlying4 _) trodAll_mk0, hARG, rfl, hb.frame _, fun h => by cases h⟩

theorem over : Rows.fnExactMatchesRuleRow.holds Try.pinned (OpenSpec.ofChange Rows.fnExactMatchesRuleSpec) :=
  OpenClaim.holds_of_wide 4 Try.f4 rfl rfl rfl rfl rfl rfl rfl ⟨rfl, rfl, rfl, rfl, rfl⟩ rfl rfl rfl rfl rfl (by kernel_rfl) Try.func4 (by kernel_rfl)
    (of_decide_eq_true (by kernel_rfl)) (by unfold Func.isWrapper; first | (rw [if_pos (by decide +kernel)]; kernel_rfl) | (rw [if_neg (by decide +kernel)]; exact ⟨rfl, rfl⟩))
    (fun os started H enc _ => lifted os started H enc)

theorem proved : Rows.FnExactMatchesRuleSaid := over
end Go.Proofs.Ytdneffnnpjgnbaa.lawMatchesRule
