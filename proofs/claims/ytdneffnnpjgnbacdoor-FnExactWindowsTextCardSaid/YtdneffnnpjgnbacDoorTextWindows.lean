/- The card of 'FnExactWindowsText': it returns true, whatever the windows; the tables of the library are tied to the program's text. -/
import Derived.Test.YtdneffnnpjgnbacDoorLaidT
import Derived.Test.YtdneffnnpjgnbacDoorWText
import Derived.Test.YtdneffnnpjgnbacDoorRowWindow
import Derived.Test.YtdneffnnpjgnbacDoorOpen
import Derived.Test.YtdneffnnpjgnbacDoorCards
import Derived.Test.YtdneffnnpjgnbacDoorTie
import Derived.SevenTiedAt
namespace Go.Proofs.YtdneffnnpjgnbacDoor.lawWindowsText
open Go.ChangeShapes Go.WideShapes Go.ChangeAt Go.RowKit

set_option maxHeartbeats 8000000 in
theorem walk (a : Option Addr) (n c : Nat) (xs : List (Int × Int)) (w : World) (hs : Sl cel2 w a n c xs) (ht : TabW w) :
    Calls Tryd.prog 4 #[.slice a n c] w (Ret (.bool true) w) := by
  refine hide_ret fun v H => ?_
  have HT := Lib.hid ht
  have hcap := hs.le; have hmax := hs.cap
  unfold maxLen at hmax
  have HL := Lib.hid hs.len
  have hr : ∀ x, Bel w x → Rd cel2 x (.slice a n c) xs := fun x hx => hs.rd.bel hx
  clear hs ht
  have S0 := Lib.hid (fun w => szWindowS_c a n c 1048576 (by omega) (by omega) (by omega) w)
  by_cases hn : (1048576 : Int) < n
  · rw [if_pos hn] at S0
    go_enter Tryd.func4, Tryd.ntmps4
    go_wp2_with (first | (go_at_call 10; refine Calls.mono (S0.out _) ?_; rintro ee ww ⟨rfl, rfl⟩))
    go_ret
    exact Ret.mk H.out (by (repeat (first | with_reducible exact Bel.refl _ | with_reducible assumption | apply Bel.ext | apply Bel.alloc | apply Bel.drew | exact Bel.refl _ | refine Bel.set ?_ (by first | (simp; done) | (simp [go_sem]; done) | omega) _)) : Bel _ _)
  rw [if_neg hn] at S0
  have hn2 : ¬ ((1048576 : Int) - n < 0) := by omega
  have hlen : xs.length ≤ 1000000000 := by rw [← HL.out]; omega
  have S1 := Lib.hid (fun u w hu => sWindowsText_c u xs w hu)
  have S2 := Lib.hid (fun u x hu (hx : Bel w x) => WindowsText_c u xs x hu (HT.out.bel hx))
  generalize textS (textW xs) = s at *
  have hss : (s.toList == s.toList) = true := by simp
  go_enter Tryd.func4, Tryd.ntmps4
  go_wp2_with (first | (go_at_call 10; refine Calls.mono (S0.out _) ?_; rintro ee ww ⟨rfl, rfl⟩) | (go_at_call 12; refine Calls.mono (toWindowS_c _ xs _ (hr _ ?_) hlen) ?_; (focus (repeat (first | with_reducible exact Bel.refl _ | with_reducible assumption | apply Bel.ext | apply Bel.alloc | apply Bel.drew | exact Bel.refl _))); rintro ee ww ⟨_, _, rfl, rfl, _⟩) | (go_at_call 11; refine Calls.mono (S1.out _ _ ?_) ?_; (focus (apply Rd.bel; (focus (first | assumption | (apply rd_of_row; assumption))); (repeat (first | with_reducible exact Bel.refl _ | with_reducible assumption | apply Bel.ext | apply Bel.alloc | apply Bel.drew | exact Bel.refl _)))); rintro ee ww ⟨rfl, _, rfl⟩) | (go_at_call 13; refine Calls.mono (S2.out _ _ ?_ ?_) ?_; (focus (apply Rd.bel; (focus (first | assumption | (apply rd_of_row; assumption))); (repeat (first | with_reducible exact Bel.refl _ | with_reducible assumption | apply Bel.ext | apply Bel.alloc | apply Bel.drew | exact Bel.refl _)))); (focus (repeat (first | with_reducible exact Bel.refl _ | with_reducible assumption | apply Bel.ext | apply Bel.alloc | apply Bel.drew | exact Bel.refl _))); rintro ee ww ⟨rfl, _, rfl⟩) | (go_at_call 14; refine Calls.mono (eqWindowS_c _ _ xs xs _ ?_ ?_) ?_; (focus (apply Rd.bel; (focus (first | assumption | (apply rd_of_row; assumption))); (repeat (first | with_reducible exact Bel.refl _ | with_reducible assumption | apply Bel.ext | apply Bel.alloc | apply Bel.drew | exact Bel.refl _)))); (focus (apply Rd.bel; (focus (first | assumption | (apply rd_of_row; assumption))); (repeat (first | with_reducible exact Bel.refl _ | with_reducible assumption | apply Bel.ext | apply Bel.alloc | apply Bel.drew | exact Bel.refl _)))); rintro ee ww ⟨rfl, _, rfl⟩))
  go_ret
  exact Ret.mk H.out (by (repeat (first | with_reducible exact Bel.refl _ | with_reducible assumption | apply Bel.ext | apply Bel.alloc | apply Bel.drew | exact Bel.refl _ | refine Bel.set ?_ (by first | (simp; done) | (simp [go_sem]; done) | omega) _)) : Bel _ _)

set_option maxRecDepth 100000 in
theorem lifted (os : Os) (started : os.Started) (H : Type) (enc : TypeId × Value → H) :
    ReturnsInHanded {} Tryd.checked os 4 .any (fun w args => (Rows.fnExactWindowsTextSpec.pre enc Tryd.prog Tryd.f4 [] false w args ∧ laidMetH Tryd.prog laidL w) ∧ sizedMet enc Tryd.prog Tryd.f4 (OpenSpec.ofChange Rows.fnExactWindowsTextSpec) false w args) (Rows.fnExactWindowsTextSpec.post enc Tryd.prog Tryd.f4 false true false false) := by
  refine returnsInHanded_of_change_and (C := Tryd.checked) (X := fun w _ => laidMetH Tryd.prog laidL w) (fun _ _ _ hh h => h.of_heap hh) own started (by kernel_rfl) Tryd.func4
    (ChangeSpec.witness_shaped (enc := enc) (C := Tryd.checked) (os := os) (X := fun w _ => laidMetH Tryd.prog laidL w) false (World.doorLaid Tryd.prog doorSteps os) #[.slice none 0 0] 8 rfl (World.shaped_of_RefB (by kernel_rfl) (by kernel_rfl)) (by kernel_rfl) (by kernel_rfl) (by kernel_rfl) (door_met os _)) ?_
  intro W base args ds gs before hval0 hW _ _ hL _
  have hval : ∀ (j : Nat) t v, Tryd.f4.params[j]? = some t → args[j]? = some v → Value.okWide Tryd.prog W .any base t v := hval0
  have hW' := hW
  obtain ⟨p, q, hA0, hV, rfl, hfz, hnd⟩ := hW
  have hA : DataW.TrodAll enc Tryd.prog W 0 (fun _ => true) true Tryd.f4.params.toList args.toList ds p := hA0
  have hlt : ∀ x ∈ p, x.block < W.heap.size := fun x hx => hW'.lt x (by simp [hx])
  rw [Tryd.params4] at hA hval
  have hK := hA
  obtain ⟨v0, vs0, d0, ds0, p0, q0, hargs, rfl, rfl, h0, r0⟩ := trodAll_cons hA
  obtain ⟨rfl, rfl, rfl⟩ := trodAll_nil r0
  obtain rfl : args = #[v0] := by cases args; simp_all
  obtain ⟨rfl, rfl⟩ := trodVars_none hV
  obtain ⟨a0, n0, cp0, xs0, rfl, hs0⟩ := open_sl2 Tryd.underlying28 Tryd.underlying56 (by kernel_rfl) rfl rfl (by kernel_rfl) (by kernel_rfl) (by kernel_rfl) (by kernel_rfl) (hval 0 28 v0 rfl rfl) h0
  refine (walk a0 n0 cp0 xs0 W hs0 (of_laid hL)).mono fun e W' ⟨he, g, hg⟩ => ?_
  subst he
  have hb : Below W.heap.size W W' := by rw [hg]; exact ext_below W g
  have hARG := trodAll_below hb _ (by kernel_rfl) hlt hK
  exact ⟨_, rfl, [d0], [], _, [], p0 ++ ([]), [], hW', trodAll_cons_mk (shut_bool Tryd.underlying4 _) trodAll_mk0, hARG, rfl, hb.frame _, fun h => by cases h⟩

theorem over : Rows.fnExactWindowsTextRow.holds Tryd.pinned (OpenSpec.ofChange Rows.fnExactWindowsTextSpec) :=
  OpenClaim.holds_of_wide 4 Tryd.f4 rfl rfl rfl rfl rfl rfl rfl ⟨rfl, rfl, rfl, rfl, rfl⟩ rfl rfl rfl rfl rfl (by kernel_rfl) Tryd.func4 (by kernel_rfl)
    (of_decide_eq_true (by kernel_rfl)) (by unfold Func.isWrapper; first | (rw [if_pos (by decide +kernel)]; kernel_rfl) | (rw [if_neg (by decide +kernel)]; exact ⟨rfl, rfl⟩))
    (fun os started H enc _ => lifted os started H enc)


theorem proved : Rows.FnExactWindowsTextCardSaid :=
  Claim7.holds_tied_plain_at .later [] [.data, .data, .data] true Rows.fnExactWindowsTextCard.stood.harness Rows.fnExactWindowsTextCard.stood.looks
    over (fun _ h => by cases h) (by kernel_rfl) (fun _ h => by cases h) fnExactWindowsText_row_tie rfl ⟨rfl, rfl⟩ (by kernel_rfl) rfl
    (fun f fn hf hfn => by
      obtain rfl : f = 4 := Option.some.inj ((show Tryd.prog.funcNamed Rows.fnExactWindowsTextRow.func = some 4 by kernel_rfl).symm.trans hf) |>.symm
      obtain rfl : fn = Tryd.f4 := (Option.some.inj (Tryd.func4.symm.trans hfn)).symm
      exact ⟨by kernel_rfl, fun j t ht => by
        rw [Tryd.params4] at ht
        have hm : t ∈ [28] := by simpa using Array.mem_of_getElem? ht
        have hall : ([28].all fun u => !Tryd.prog.wantsStandIn u) = true := by kernel_rfl
        exact (show Tryd.prog.wantsStandIn t = false by simpa using List.all_eq_true.1 hall t hm)⟩)
    (by kernel_rfl)
end Go.Proofs.YtdneffnnpjgnbacDoor.lawWindowsText
