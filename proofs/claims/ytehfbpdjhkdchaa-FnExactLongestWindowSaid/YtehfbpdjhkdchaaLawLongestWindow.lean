/- 'FnExactLongestWindow' returns true, whatever the arguments; no condition. -/
import Derived.Test.YtehfbpdjhkdchaaWinLen
import Derived.Test.YtehfbpdjhkdchaaMem
import Derived.Test.YtehfbpdjhkdchaaOpen
namespace Go.Proofs.Ytehfbpdjhkdchaa.lawLongestWindow
open Go.ChangeShapes Go.WideShapes Go.ChangeAt Go.RowKit

set_option maxHeartbeats 8000000 in
theorem walk (a_xs : Option Addr) (n_xs c_xs : Nat) (xs : List (Int × Int)) (w : World) (hs_xs : Sl cel2 w a_xs n_xs c_xs xs) :
    Calls Try.prog 9 #[.slice a_xs n_xs c_xs] w (Ret (.bool true) w) := by
  refine hide_ret fun v H => ?_
  have hcap_xs := hs_xs.le; have hmax_xs := hs_xs.cap
  unfold maxLen at hmax_xs
  have HL_xs := Lib.hid hs_xs.len
  have hr0_xs : ∀ x, Bel w x → Rd cel2 x (.slice a_xs n_xs c_xs) xs := fun x hx => hs_xs.rd.bel hx
  have S1 := Lib.hid (fun u w hu => sLongestWindow_c u xs w hu)
  have S2 := Lib.hid (fun u w hu => LongestWindow_c u xs w hu)
  generalize longI xs = s at *
  obtain ⟨s1, s2⟩ := s
  dsimp only at S1 S2
  have hq1 : (s1 != s1) = false := by simp
  have hq2 : (s2 != s2) = false := by simp
  by_cases hn_xs : (1048576 : Int) < n_xs
  · go_enter Try.func9, Try.ntmps9
    go_wp2_with (first | (go_at_call 14; refine (szWindowS_c _ _ _ _ (by omega) (by omega) (by omega) _).mono ?_; rintro ee ww ⟨rfl, rfl⟩))
    all_goals (try ((refine region_ext (by kernel_rfl) (by kernel_rfl) ?_; (repeat (go_big_quiet_step (first | (go_at_call 14; exact Calls.in_same (szWindowS_c _ _ _ _ (by omega) (by omega) (by omega) _))))); refine wpQuiet_nil ?_; rintro _ ⟨_, rfl⟩); go_wp2_with (first | (go_at_call 14; refine (szWindowS_c _ _ _ _ (by omega) (by omega) (by omega) _).mono ?_; rintro ee ww ⟨rfl, rfl⟩))))
    go_ret
    refine Ret.mk ?_ (?_ : Bel _ _)
    · exact H.out
    · (repeat (first | exact Bel.refl _ | apply Bel.ext | apply Bel.alloc | apply Bel.drew | refine Bel.set ?_ (by first | (simp; done) | (simp [go_sem]; done) | omega) _))
  have hlen_xs : xs.length ≤ 1000000000 := by rw [← HL_xs.out]; omega
  go_enter Try.func9, Try.ntmps9
  have hM := mem_nil w
  have hr_xs : ∀ x, Bel w x → Rd cel2 x (.slice a_xs n_xs c_xs) xs := fun x hx => hr0_xs x hx
  go_wp2_with (first | (go_at_call 31; refine Calls.mono (mem_ret hM ?_ (S1.out _ _ ?_)) ?_; (focus (repeat (first | exact Bel.refl _ | apply Bel.ext | apply Bel.alloc | apply Bel.drew))); (focus (first | exact Rd.bel (rd_of hM 0 rfl) (by (repeat (first | exact Bel.refl _ | apply Bel.ext | apply Bel.alloc | apply Bel.drew))) | exact Rd.bel (rd_of hM 1 rfl) (by (repeat (first | exact Bel.refl _ | apply Bel.ext | apply Bel.alloc | apply Bel.drew))) | exact Rd.bel (rd_of hM 2 rfl) (by (repeat (first | exact Bel.refl _ | apply Bel.ext | apply Bel.alloc | apply Bel.drew))) | exact Rd.bel (rd_of hM 3 rfl) (by (repeat (first | exact Bel.refl _ | apply Bel.ext | apply Bel.alloc | apply Bel.drew))) | exact Rd.bel (rd_of hM 4 rfl) (by (repeat (first | exact Bel.refl _ | apply Bel.ext | apply Bel.alloc | apply Bel.drew))) | exact Rd.bel (rd_of hM 5 rfl) (by (repeat (first | exact Bel.refl _ | apply Bel.ext | apply Bel.alloc | apply Bel.drew))) | exact Rd.bel (rd_of hM 6 rfl) (by (repeat (first | exact Bel.refl _ | apply Bel.ext | apply Bel.alloc | apply Bel.drew))) | exact Rd.bel (rd_of hM 7 rfl) (by (repeat (first | exact Bel.refl _ | apply Bel.ext | apply Bel.alloc | apply Bel.drew))) | exact Rd.bel (rd_of hM 8 rfl) (by (repeat (first | exact Bel.refl _ | apply Bel.ext | apply Bel.alloc | apply Bel.drew))) | exact Rd.bel (rd_of hM 9 rfl) (by (repeat (first | exact Bel.refl _ | apply Bel.ext | apply Bel.alloc | apply Bel.drew))) | exact Rd.bel (rd_of hM 10 rfl) (by (repeat (first | exact Bel.refl _ | apply Bel.ext | apply Bel.alloc | apply Bel.drew))) | exact Rd.bel (rd_of hM 11 rfl) (by (repeat (first | exact Bel.refl _ | apply Bel.ext | apply Bel.alloc | apply Bel.drew))))); rintro ee ww ⟨rfl, _, rfl, hM⟩) | (go_at_call 32; refine Calls.mono (mem_ret hM ?_ (S2.out _ _ ?_)) ?_; (focus (repeat (first | exact Bel.refl _ | apply Bel.ext | apply Bel.alloc | apply Bel.drew))); (focus (first | exact Rd.bel (rd_of hM 0 rfl) (by (repeat (first | exact Bel.refl _ | apply Bel.ext | apply Bel.alloc | apply Bel.drew))) | exact Rd.bel (rd_of hM 1 rfl) (by (repeat (first | exact Bel.refl _ | apply Bel.ext | apply Bel.alloc | apply Bel.drew))) | exact Rd.bel (rd_of hM 2 rfl) (by (repeat (first | exact Bel.refl _ | apply Bel.ext | apply Bel.alloc | apply Bel.drew))) | exact Rd.bel (rd_of hM 3 rfl) (by (repeat (first | exact Bel.refl _ | apply Bel.ext | apply Bel.alloc | apply Bel.drew))) | exact Rd.bel (rd_of hM 4 rfl) (by (repeat (first | exact Bel.refl _ | apply Bel.ext | apply Bel.alloc | apply Bel.drew))) | exact Rd.bel (rd_of hM 5 rfl) (by (repeat (first | exact Bel.refl _ | apply Bel.ext | apply Bel.alloc | apply Bel.drew))) | exact Rd.bel (rd_of hM 6 rfl) (by (repeat (first | exact Bel.refl _ | apply Bel.ext | apply Bel.alloc | apply Bel.drew))) | exact Rd.bel (rd_of hM 7 rfl) (by (repeat (first | exact Bel.refl _ | apply Bel.ext | apply Bel.alloc | apply Bel.drew))) | exact Rd.bel (rd_of hM 8 rfl) (by (repeat (first | exact Bel.refl _ | apply Bel.ext | apply Bel.alloc | apply Bel.drew))) | exact Rd.bel (rd_of hM 9 rfl) (by (repeat (first | exact Bel.refl _ | apply Bel.ext | apply Bel.alloc | apply Bel.drew))) | exact Rd.bel (rd_of hM 10 rfl) (by (repeat (first | exact Bel.refl _ | apply Bel.ext | apply Bel.alloc | apply Bel.drew))) | exact Rd.bel (rd_of hM 11 rfl) (by (repeat (first | exact Bel.refl _ | apply Bel.ext | apply Bel.alloc | apply Bel.drew))))); rintro ee ww ⟨rfl, _, rfl, hM⟩) | (go_at_call 42; refine Calls.mono (mem_ret hM ?_ (toWindow_c _ _ _)) ?_; (focus (repeat (first | exact Bel.refl _ | apply Bel.ext | apply Bel.alloc | apply Bel.drew))); rintro ee ww ⟨rfl, _, rfl, hM⟩) | (go_at_call 14; refine Calls.mono (mem_ret hM ?_ (same_ret (szWindowS_c _ _ _ _ (by omega) (by omega) (by omega) _))) ?_; (focus (repeat (first | exact Bel.refl _ | apply Bel.ext | apply Bel.alloc | apply Bel.drew))); rintro ee ww ⟨rfl, _, rfl, hM⟩) | (go_at_call 16; refine Calls.mono (mem_row hM ?_ (toWindowS_c _ xs _ (hr_xs _ ?_) hlen_xs)) ?_; (focus (repeat (first | exact Bel.refl _ | apply Bel.ext | apply Bel.alloc | apply Bel.drew))); (focus (repeat (first | exact Bel.refl _ | apply Bel.ext | apply Bel.alloc | apply Bel.drew))); rintro ee ww ⟨v, _, rfl, rfl, hM⟩; (try simp only [List.nil_append, List.cons_append, List.set_cons_zero, List.set_cons_succ] at hM)) | (go_at_call 18; refine Calls.mono (mem_ret hM ?_ (eqWindowS_c _ _ xs xs _ ?_ ?_)) ?_; (focus (repeat (first | exact Bel.refl _ | apply Bel.ext | apply Bel.alloc | apply Bel.drew))); (focus (first | exact Rd.bel (rd_of hM 0 rfl) (by (repeat (first | exact Bel.refl _ | apply Bel.ext | apply Bel.alloc | apply Bel.drew))) | exact Rd.bel (rd_of hM 1 rfl) (by (repeat (first | exact Bel.refl _ | apply Bel.ext | apply Bel.alloc | apply Bel.drew))) | exact Rd.bel (rd_of hM 2 rfl) (by (repeat (first | exact Bel.refl _ | apply Bel.ext | apply Bel.alloc | apply Bel.drew))) | exact Rd.bel (rd_of hM 3 rfl) (by (repeat (first | exact Bel.refl _ | apply Bel.ext | apply Bel.alloc | apply Bel.drew))) | exact Rd.bel (rd_of hM 4 rfl) (by (repeat (first | exact Bel.refl _ | apply Bel.ext | apply Bel.alloc | apply Bel.drew))) | exact Rd.bel (rd_of hM 5 rfl) (by (repeat (first | exact Bel.refl _ | apply Bel.ext | apply Bel.alloc | apply Bel.drew))) | exact Rd.bel (rd_of hM 6 rfl) (by (repeat (first | exact Bel.refl _ | apply Bel.ext | apply Bel.alloc | apply Bel.drew))) | exact Rd.bel (rd_of hM 7 rfl) (by (repeat (first | exact Bel.refl _ | apply Bel.ext | apply Bel.alloc | apply Bel.drew))) | exact Rd.bel (rd_of hM 8 rfl) (by (repeat (first | exact Bel.refl _ | apply Bel.ext | apply Bel.alloc | apply Bel.drew))) | exact Rd.bel (rd_of hM 9 rfl) (by (repeat (first | exact Bel.refl _ | apply Bel.ext | apply Bel.alloc | apply Bel.drew))) | exact Rd.bel (rd_of hM 10 rfl) (by (repeat (first | exact Bel.refl _ | apply Bel.ext | apply Bel.alloc | apply Bel.drew))) | exact Rd.bel (rd_of hM 11 rfl) (by (repeat (first | exact Bel.refl _ | apply Bel.ext | apply Bel.alloc | apply Bel.drew))))); (focus (first | exact Rd.bel (rd_of hM 0 rfl) (by (repeat (first | exact Bel.refl _ | apply Bel.ext | apply Bel.alloc | apply Bel.drew))) | exact Rd.bel (rd_of hM 1 rfl) (by (repeat (first | exact Bel.refl _ | apply Bel.ext | apply Bel.alloc | apply Bel.drew))) | exact Rd.bel (rd_of hM 2 rfl) (by (repeat (first | exact Bel.refl _ | apply Bel.ext | apply Bel.alloc | apply Bel.drew))) | exact Rd.bel (rd_of hM 3 rfl) (by (repeat (first | exact Bel.refl _ | apply Bel.ext | apply Bel.alloc | apply Bel.drew))) | exact Rd.bel (rd_of hM 4 rfl) (by (repeat (first | exact Bel.refl _ | apply Bel.ext | apply Bel.alloc | apply Bel.drew))) | exact Rd.bel (rd_of hM 5 rfl) (by (repeat (first | exact Bel.refl _ | apply Bel.ext | apply Bel.alloc | apply Bel.drew))) | exact Rd.bel (rd_of hM 6 rfl) (by (repeat (first | exact Bel.refl _ | apply Bel.ext | apply Bel.alloc | apply Bel.drew))) | exact Rd.bel (rd_of hM 7 rfl) (by (repeat (first | exact Bel.refl _ | apply Bel.ext | apply Bel.alloc | apply Bel.drew))) | exact Rd.bel (rd_of hM 8 rfl) (by (repeat (first | exact Bel.refl _ | apply Bel.ext | apply Bel.alloc | apply Bel.drew))) | exact Rd.bel (rd_of hM 9 rfl) (by (repeat (first | exact Bel.refl _ | apply Bel.ext | apply Bel.alloc | apply Bel.drew))) | exact Rd.bel (rd_of hM 10 rfl) (by (repeat (first | exact Bel.refl _ | apply Bel.ext | apply Bel.alloc | apply Bel.drew))) | exact Rd.bel (rd_of hM 11 rfl) (by (repeat (first | exact Bel.refl _ | apply Bel.ext | apply Bel.alloc | apply Bel.drew))))); rintro ee ww ⟨rfl, _, rfl, hM⟩))
  go_ret
  exact ⟨H.out ▸ rfl, ext_ex (by (repeat (first | exact Bel.refl _ | apply Bel.ext | apply Bel.alloc | apply Bel.drew | refine Bel.set ?_ (by first | (simp; done) | (simp [go_sem]; done) | omega) _)) : Bel w _)⟩

set_option maxRecDepth 100000 in
theorem lifted (os : Os) (started : os.Started) (H : Type) (enc : TypeId × Value → H) :
    ReturnsInHanded {} Try.checked os 9 .any (Rows.fnExactLongestWindowSpec.pre6 enc Try.prog Try.f9 Rows.fnExactLongestWindowRow.domain false) (Rows.fnExactLongestWindowSpec.post enc Try.prog Try.f9 false true false false) := by
  refine returnsInHanded_of_change (C := Try.checked) own started (by kernel_rfl) Try.func9
    (ChangeSpec.witness6 (enc := enc) (C := Try.checked) false ⟨#[], #[.slice none 0 0], []⟩ 8 (by kernel_rfl) (by kernel_rfl) (by kernel_rfl) (by kernel_rfl)) ?_
  intro W base args ds gs before hval0 hW _ _
  have hval : ∀ (j : Nat) t v, Try.f9.params[j]? = some t → args[j]? = some v → Value.okWide Try.prog W .any base t v := hval0
  have hW' := hW
  obtain ⟨p, q, hA0, hV, rfl, hfz, hnd⟩ := hW
  have hA : DataW.TrodAll enc Try.prog W 0 (fun _ => true) true Try.f9.params.toList args.toList ds p := hA0
  have hlt : ∀ x ∈ p, x.block < W.heap.size := fun x hx => hW'.lt x (by simp [hx])
  rw [Try.params9] at hA hval
  have hK := hA
  obtain ⟨v0, vs0, d0, ds0, p0, q0, hargs, rfl, rfl, h0, r0⟩ := trodAll_cons hA
  obtain ⟨rfl, rfl, rfl⟩ := trodAll_nil r0
  obtain rfl : args = #[v0] := by cases args; simp_all
  obtain ⟨rfl, rfl⟩ := trodVars_none hV
  obtain ⟨a0, n0, cp0, xs0, rfl, hs0⟩ := open_sl2 Try.underlying22 Try.underlying46 (by kernel_rfl) rfl rfl (by kernel_rfl) (by kernel_rfl) (by kernel_rfl) (by kernel_rfl) (hval 0 22 v0 rfl rfl) h0
  refine (walk a0 n0 cp0 xs0 W hs0).mono fun e W' ⟨he, g, hg⟩ => ?_
  subst he
  have hb : Below W.heap.size W W' := by rw [hg]; exact ext_below W g
  have hARG := trodAll_below hb _ (by kernel_rfl) hlt hK
  exact ⟨_, rfl, [d0], [], _, [], p0 ++ ([]), [], hW', trodAll_cons_mk (shut_bool Try.underlying4 _) trodAll_mk0, hARG, rfl, hb.frame _, fun h => by cases h⟩

theorem over : Rows.fnExactLongestWindowRow.holds Try.pinned (OpenSpec.ofChange Rows.fnExactLongestWindowSpec) :=
  OpenClaim.holds_of_wide 9 Try.f9 rfl rfl rfl rfl rfl rfl rfl ⟨rfl, rfl, rfl, rfl, rfl⟩ rfl rfl rfl rfl rfl (by kernel_rfl) Try.func9 (by kernel_rfl)
    (of_decide_eq_true (by kernel_rfl)) (by unfold Func.isWrapper; first | (rw [if_pos (by decide +kernel)]; kernel_rfl) | (rw [if_neg (by decide +kernel)]; exact ⟨rfl, rfl⟩))
    (fun os started H enc _ => lifted os started H enc)

theorem proved : Rows.FnExactLongestWindowSaid := over
end Go.Proofs.Ytehfbpdjhkdchaa.lawLongestWindow
