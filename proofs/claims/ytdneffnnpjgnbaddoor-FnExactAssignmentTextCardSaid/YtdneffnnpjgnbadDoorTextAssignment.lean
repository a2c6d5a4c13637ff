/- The card of 'FnExactAssignmentText': it returns true, whatever the list; the tables of the library are tied to the program's text. -/
import Derived.Test.YtdneffnnpjgnbadDoorLaidT
import Derived.Test.YtdneffnnpjgnbadDoorAText2
import Derived.Test.YtdneffnnpjgnbadDoorRowInt
import Derived.Test.YtdneffnnpjgnbadDoorOpenB
import Derived.Test.YtdneffnnpjgnbadDoorCards
import Derived.Test.YtdneffnnpjgnbadDoorTie
import Derived.SevenTiedAt
namespace Go.Proofs.YtdneffnnpjgnbadDoor.lawAssignmentText
open Go.ChangeShapes Go.WideShapes Go.ChangeAt Go.RowKit

set_option maxHeartbeats 8000000 in
theorem walk (a : Option Addr) (n c : Nat) (xs : List Int) (w : World) (hs : Sl celI w a n c xs) (hz : ∀ x ∈ xs, -9223372036854775808 ≤ x ∧ x ≤ 9223372036854775807) (ht : TabW w) :
    Calls Tryd.prog 3 #[.slice a n c] w (Ret (.bool true) w) := by
  refine hide_ret fun v H => ?_
  have HT := Lib.hid ht
  have hcap := hs.le; have hmax := hs.cap
  unfold maxLen at hmax
  have HL := Lib.hid hs.len
  have hr : ∀ x, Bel w x → Rd celI x (.slice a n c) xs := fun x hx => hs.rd.bel hx
  have HZ := Lib.hid hz
  clear hz hs ht
  by_cases hn : (1048576 : Int) < n
  · go_enter Tryd.func3, Tryd.ntmps3
    go_wp2
    go_ret
    exact Ret.mk H.out (by (repeat (first | with_reducible exact Bel.refl _ | with_reducible assumption | apply Bel.ext | apply Bel.alloc | apply Bel.drew | exact Bel.refl _ | refine Bel.set ?_ (by first | (simp; done) | (simp [go_sem]; done) | omega) _)) : Bel _ _)
  have hl : xs.length ≤ 1048576 := by rw [← HL.out]; omega
  have hlen : xs.length ≤ 1000000000 := by omega
  have S1 := Lib.hid (fun u w hu => sAssignmentText_c u xs w hu hl HZ.out)
  have S2 := Lib.hid (fun u x hu (hx : Bel w x) => AssignmentText_c u xs x hu hl HZ.out (HT.out.bel hx))
  clear hl
  generalize textS (textA xs) = s at *
  have hss : (s.toList == s.toList) = true := by simp
  go_enter Tryd.func3, Tryd.ntmps3
  go_wp2_with (first | (go_at_call 5; refine Calls.mono (toInt64S_c _ xs _ (hr _ ?_) hlen) ?_; (focus (repeat (first | with_reducible exact Bel.refl _ | with_reducible assumption | apply Bel.ext | apply Bel.alloc | apply Bel.drew | exact Bel.refl _))); rintro ee ww ⟨_, _, rfl, rfl, _⟩) | (go_at_call 4; refine Calls.mono (S1.out _ _ ?_) ?_; (focus (apply Rd.bel; (focus (first | assumption | (apply rd_of_row; assumption))); (repeat (first | with_reducible exact Bel.refl _ | with_reducible assumption | apply Bel.ext | apply Bel.alloc | apply Bel.drew | exact Bel.refl _)))); rintro ee ww ⟨rfl, _, rfl⟩) | (go_at_call 6; refine Calls.mono (S2.out _ _ ?_ ?_) ?_; (focus (apply Rd.bel; (focus (first | assumption | (apply rd_of_row; assumption))); (repeat (first | with_reducible exact Bel.refl _ | with_reducible assumption | apply Bel.ext | apply Bel.alloc | apply Bel.drew | exact Bel.refl _)))); (focus (repeat (first | with_reducible exact Bel.refl _ | with_reducible assumption | apply Bel.ext | apply Bel.alloc | apply Bel.drew | exact Bel.refl _))); rintro ee ww ⟨rfl, _, rfl⟩) | (go_at_call 7; refine Calls.mono (eqInt64S_c _ _ xs xs _ ?_ ?_) ?_; (focus (apply Rd.bel; (focus (first | assumption | (apply rd_of_row; assumption))); (repeat (first | with_reducible exact Bel.refl _ | with_reducible assumption | apply Bel.ext | apply Bel.alloc | apply Bel.drew | exact Bel.refl _)))); (focus (apply Rd.bel; (focus (first | assumption | (apply rd_of_row; assumption))); (repeat (first | with_reducible exact Bel.refl _ | with_reducible assumption | apply Bel.ext | apply Bel.alloc | apply Bel.drew | exact Bel.refl _)))); rintro ee ww ⟨rfl, _, rfl⟩))
  go_ret
  exact Ret.mk H.out (by (repeat (first | with_reducible exact Bel.refl _ | with_reducible assumption | apply Bel.ext | apply Bel.alloc | apply Bel.drew | exact Bel.refl _ | refine Bel.set ?_ (by first | (simp; done) | (simp [go_sem]; done) | omega) _)) : Bel _ _)

set_option maxRecDepth 100000 in
theorem lifted (os : Os) (started : os.Started) (H : Type) (enc : TypeId × Value → H) :
    ReturnsInHanded {} Tryd.checked os 3 .any (fun w args => (Rows.fnExactAssignmentTextSpec.pre enc Tryd.prog Tryd.f3 [] false w args ∧ laidMetH Tryd.prog laidL w) ∧ sizedMet enc Tryd.prog Tryd.f3 (OpenSpec.ofChange Rows.fnExactAssignmentTextSpec) false w args) (Rows.fnExactAssignmentTextSpec.post enc Tryd.prog Tryd.f3 false true false false) := by
  refine returnsInHanded_of_change_and (C := Tryd.checked) (X := fun w _ => laidMetH Tryd.prog laidL w) (fun _ _ _ hh h => h.of_heap hh) own started (by kernel_rfl) Tryd.func3
    (ChangeSpec.witness_shaped (enc := enc) (C := Tryd.checked) (os := os) (X := fun w _ => laidMetH Tryd.prog laidL w) false (World.doorLaid Tryd.prog doorSteps os) #[.slice none 0 0] 8 rfl (World.shaped_of_RefB (by kernel_rfl) (by kernel_rfl)) (by kernel_rfl) (by kernel_rfl) (by kernel_rfl) (door_met os _)) ?_
  intro W base args ds gs before hval0 hW _ _ hL _
  have hval : ∀ (j : Nat) t v, Tryd.f3.params[j]? = some t → args[j]? = some v → Value.okWide Tryd.prog W .any base t v := hval0
  have hW' := hW
  obtain ⟨p, q, hA0, hV, rfl, hfz, hnd⟩ := hW
  have hA : DataW.TrodAll enc Tryd.prog W 0 (fun _ => true) true Tryd.f3.params.toList args.toList ds p := hA0
  have hlt : ∀ x ∈ p, x.block < W.heap.size := fun x hx => hW'.lt x (by simp [hx])
  rw [Tryd.params3] at hA hval
  have hK := hA
  obtain ⟨v0, vs0, d0, ds0, p0, q0, hargs, rfl, rfl, h0, r0⟩ := trodAll_cons hA
  obtain ⟨rfl, rfl, rfl⟩ := trodAll_nil r0
  obtain rfl : args = #[v0] := by cases args; simp_all
  obtain ⟨rfl, rfl⟩ := trodVars_none hV
  obtain ⟨a0, n0, cp0, xs0, rfl, hs0, hz0⟩ := open_slIB Tryd.underlying22 Tryd.underlying2 (by kernel_rfl) (hval 0 22 v0 rfl rfl) h0
  refine (walk a0 n0 cp0 xs0 W hs0 hz0 (of_laid hL)).mono fun e W' ⟨he, g, hg⟩ => ?_
  subst he
  have hb : Below W.heap.size W W' := by rw [hg]; exact ext_below W g
  have hARG := trodAll_below hb _ (by kernel_rfl) hlt hK
  exact ⟨_, rfl, [d0], [], _, [], p0 ++ ([]), [], hW', trodAll_cons_mk (shut_bool Tryd.underlying4 _) trodAll_mk0, hARG, rfl, hb.frame _, fun h => by cases h⟩

theorem over : Rows.fnExactAssignmentTextRow.holds Tryd.pinned (OpenSpec.ofChange Rows.fnExactAssignmentTextSpec) :=
  OpenClaim.holds_of_wide 3 Tryd.f3 rfl rfl rfl rfl rfl rfl rfl ⟨rfl, rfl, rfl, rfl, rfl⟩ rfl rfl rfl rfl rfl (by kernel_rfl) Tryd.func3 (by kernel_rfl)
    (of_decide_eq_true (by kernel_rfl)) (by unfold Func.isWrapper; first | (rw [if_pos (by decide +kernel)]; kernel_rfl) | (rw [if_neg (by decide +kernel)]; exact ⟨rfl, rfl⟩))
    (fun os started H enc _ => lifted os started H enc)


theorem proved : Rows.FnExactAssignmentTextCardSaid :=
  Claim7.holds_tied_plain_at .later [] [.data, .data, .data] true Rows.fnExactAssignmentTextCard.stood.harness Rows.fnExactAssignmentTextCard.stood.looks
    over (fun _ h => by cases h) (by kernel_rfl) (fun _ h => by cases h) fnExactAssignmentText_row_tie rfl ⟨rfl, rfl⟩ (by kernel_rfl) rfl
    (fun f fn hf hfn => by
      obtain rfl : f = 3 := Option.some.inj ((show Tryd.prog.funcNamed Rows.fnExactAssignmentTextRow.func = some 3 by kernel_rfl).symm.trans hf) |>.symm
      obtain rfl : fn = Tryd.f3 := (Option.some.inj (Tryd.func3.symm.trans hfn)).symm
      exact ⟨by kernel_rfl, fun j t ht => by
        rw [Tryd.params3] at ht
        have hm : t ∈ [22] := by simpa using Array.mem_of_getElem? ht
        have hall : ([22].all fun u => !Tryd.prog.wantsStandIn u) = true := by kernel_rfl
        exact (show Tryd.prog.wantsStandIn t = false by simpa using List.all_eq_true.1 hall t hm)⟩)
    (by kernel_rfl)
end Go.Proofs.YtdneffnnpjgnbadDoor.lawAssignmentText
