/- The card of 'FnExactReadWindows': it returns true, whatever the text; the variables of the library are tied to the program's text. -/
import Derived.Test.YtdneffnnpjgnbacDoorLaidR
import Derived.Test.YtdneffnnpjgnbacDoorMem
import Derived.Test.YtdneffnnpjgnbacDoorCards
import Derived.Test.YtdneffnnpjgnbacDoorTie
import Derived.ChangeMaps5
import Derived.SevenTiedAt
namespace Go.Proofs.YtdneffnnpjgnbacDoor.lawReadWindows
open Go.ChangeShapes Go.WideShapes Go.ChangeAt Go.RowKit

set_option maxHeartbeats 8000000 in
theorem walk (s : ByteArray) (w : World) (hz : s.size ≤ maxLen) (hq : TabW w ∧ ErrV w ∧ CutW w) :
    Calls Tryd.prog 5 #[.string s] w (Ret (.bool true) w) := by
  refine hide_ret fun v H => ?_
  unfold maxLen at hz
  have HT := Lib.hid hq.1
  have HE := Lib.hid hq.2.1
  have HC := Lib.hid hq.2.2
  clear hq
  by_cases hn : (1048576 : Int) < s.size
  · go_enter Tryd.func5, Tryd.ntmps5
    go_wp2
    go_ret
    exact Ret.mk H.out (by (repeat (first | with_reducible exact Bel.refl _ | with_reducible assumption | apply Bel.ext | apply Bel.alloc | apply Bel.drew | exact Bel.refl _ | refine Bel.set ?_ (by first | (simp; done) | (simp [go_sem]; done) | omega) _)) : Bel _ _)
  have hl : s.data.toList.length ≤ 1048576 := by simp; omega
  have hlen := readW_len s.data.toList
  have S1 := Lib.hid (fun x => sReadWindows_c s.data.toList hl x)
  have S2 := Lib.hid (fun x (hx : Bel w x) => ReadWindowsI_c s.data.toList hl x (HT.out.bel hx) (HE.out.bel hx) (HC.out.bel hx))
  rw [impW_same] at S2
  rw [← text_of] at S1 S2
  generalize readW s.data.toList = R0 at *
  obtain ⟨ys, code⟩ := R0
  dsimp only at hlen S1 S2
  have hcode : (code != code) = false := by cases code <;> rfl
  clear hl
  have hM := mem_nil w
  go_enter Tryd.func5, Tryd.ntmps5
  go_wp2_with (first | (go_at_call 15; refine Calls.mono (mem_row hM ?_ (S1.out _)) ?_; (focus (repeat (first | with_reducible exact Bel.refl _ | with_reducible assumption | apply Bel.ext | apply Bel.alloc | apply Bel.drew | exact Bel.refl _))); rintro ee ww ⟨v, _, rfl, rfl, hM⟩; (try simp only [List.nil_append, List.cons_append, List.set_cons_zero, List.set_cons_succ] at hM)) | (go_at_call 16; refine Calls.mono (mem_row hM ?_ (S2.out _ ?_)) ?_; (focus (repeat (first | with_reducible exact Bel.refl _ | with_reducible assumption | apply Bel.ext | apply Bel.alloc | apply Bel.drew | exact Bel.refl _))); (focus (repeat (first | with_reducible exact Bel.refl _ | with_reducible assumption | apply Bel.ext | apply Bel.alloc | apply Bel.drew | exact Bel.refl _))); rintro ee ww ⟨v, _, rfl, rfl, hM⟩; (try simp only [List.nil_append, List.cons_append, List.set_cons_zero, List.set_cons_succ] at hM)) | (go_at_call 31; refine Calls.mono (mem_ret hM ?_ (toWindow_c _ _ _)) ?_; (focus (repeat (first | with_reducible exact Bel.refl _ | with_reducible assumption | apply Bel.ext | apply Bel.alloc | apply Bel.drew | exact Bel.refl _))); rintro ee ww ⟨rfl, _, rfl, hM⟩) | (go_at_call 10; refine Calls.mono (mem_ret hM ?_ (same_ret (szWindowS_c _ _ _ _ (by omega) (by omega) (by omega) _))) ?_; (focus (repeat (first | with_reducible exact Bel.refl _ | with_reducible assumption | apply Bel.ext | apply Bel.alloc | apply Bel.drew | exact Bel.refl _))); rintro ee ww ⟨rfl, _, rfl, hM⟩) | (go_at_call 14; refine Calls.mono (mem_ret hM ?_ (eqWindowS_c _ _ ys ys _ ?_ ?_)) ?_; (focus (repeat (first | with_reducible exact Bel.refl _ | with_reducible assumption | apply Bel.ext | apply Bel.alloc | apply Bel.drew | exact Bel.refl _))); (focus (first | exact Rd.bel (rd_of hM 0 rfl) (by (repeat (first | exact Bel.refl _ | apply Bel.ext | apply Bel.alloc | apply Bel.drew))) | exact Rd.bel (rd_of hM 1 rfl) (by (repeat (first | exact Bel.refl _ | apply Bel.ext | apply Bel.alloc | apply Bel.drew))) | exact Rd.bel (rd_of hM 2 rfl) (by (repeat (first | exact Bel.refl _ | apply Bel.ext | apply Bel.alloc | apply Bel.drew))) | exact Rd.bel (rd_of hM 3 rfl) (by (repeat (first | exact Bel.refl _ | apply Bel.ext | apply Bel.alloc | apply Bel.drew))) | exact Rd.bel (rd_of hM 4 rfl) (by (repeat (first | exact Bel.refl _ | apply Bel.ext | apply Bel.alloc | apply Bel.drew))) | exact Rd.bel (rd_of hM 5 rfl) (by (repeat (first | exact Bel.refl _ | apply Bel.ext | apply Bel.alloc | apply Bel.drew))) | exact Rd.bel (rd_of hM 6 rfl) (by (repeat (first | exact Bel.refl _ | apply Bel.ext | apply Bel.alloc | apply Bel.drew))) | exact Rd.bel (rd_of hM 7 rfl) (by (repeat (first | exact Bel.refl _ | apply Bel.ext | apply Bel.alloc | apply Bel.drew))) | exact Rd.bel (rd_of hM 8 rfl) (by (repeat (first | exact Bel.refl _ | apply Bel.ext | apply Bel.alloc | apply Bel.drew))) | exact Rd.bel (rd_of hM 9 rfl) (by (repeat (first | exact Bel.refl _ | apply Bel.ext | apply Bel.alloc | apply Bel.drew))) | exact Rd.bel (rd_of hM 10 rfl) (by (repeat (first | exact Bel.refl _ | apply Bel.ext | apply Bel.alloc | apply Bel.drew))) | exact Rd.bel (rd_of hM 11 rfl) (by (repeat (first | exact Bel.refl _ | apply Bel.ext | apply Bel.alloc | apply Bel.drew))))); (focus (first | exact Rd.bel (rd_of hM 0 rfl) (by (repeat (first | exact Bel.refl _ | apply Bel.ext | apply Bel.alloc | apply Bel.drew))) | exact Rd.bel (rd_of hM 1 rfl) (by (repeat (first | exact Bel.refl _ | apply Bel.ext | apply Bel.alloc | apply Bel.drew))) | exact Rd.bel (rd_of hM 2 rfl) (by (repeat (first | exact Bel.refl _ | apply Bel.ext | apply Bel.alloc | apply Bel.drew))) | exact Rd.bel (rd_of hM 3 rfl) (by (repeat (first | exact Bel.refl _ | apply Bel.ext | apply Bel.alloc | apply Bel.drew))) | exact Rd.bel (rd_of hM 4 rfl) (by (repeat (first | exact Bel.refl _ | apply Bel.ext | apply Bel.alloc | apply Bel.drew))) | exact Rd.bel (rd_of hM 5 rfl) (by (repeat (first | exact Bel.refl _ | apply Bel.ext | apply Bel.alloc | apply Bel.drew))) | exact Rd.bel (rd_of hM 6 rfl) (by (repeat (first | exact Bel.refl _ | apply Bel.ext | apply Bel.alloc | apply Bel.drew))) | exact Rd.bel (rd_of hM 7 rfl) (by (repeat (first | exact Bel.refl _ | apply Bel.ext | apply Bel.alloc | apply Bel.drew))) | exact Rd.bel (rd_of hM 8 rfl) (by (repeat (first | exact Bel.refl _ | apply Bel.ext | apply Bel.alloc | apply Bel.drew))) | exact Rd.bel (rd_of hM 9 rfl) (by (repeat (first | exact Bel.refl _ | apply Bel.ext | apply Bel.alloc | apply Bel.drew))) | exact Rd.bel (rd_of hM 10 rfl) (by (repeat (first | exact Bel.refl _ | apply Bel.ext | apply Bel.alloc | apply Bel.drew))) | exact Rd.bel (rd_of hM 11 rfl) (by (repeat (first | exact Bel.refl _ | apply Bel.ext | apply Bel.alloc | apply Bel.drew))))); rintro ee ww ⟨rfl, _, rfl, hM⟩) | (go_at_call 17; refine args_guard hM 1 rfl (by with_reducible rfl) ?_; refine Calls.mono (mem_mark hM ?_ 1 rfl (fun hM => markWindowS_c _ _ ys.length _ 1 _ _ hM.bel (hM.own 1 _ rfl) (by omega) (by omega) (by omega))) ?_; (focus (repeat (first | with_reducible exact Bel.refl _ | with_reducible assumption | apply Bel.ext | apply Bel.alloc | apply Bel.drew | exact Bel.refl _))); rintro ee ww ⟨rfl, _, rfl, hM⟩; (try simp only [List.nil_append, List.cons_append, List.set_cons_zero, List.set_cons_succ] at hM)) | (go_at_call 18; refine args_guard hM 1 rfl (by with_reducible rfl) ?_; refine Calls.mono (mem_ret hM ?_ (heldWindowS_c _ w.heap.size 54 ys.length 1 _ (own_bel (hM.own 1 _ rfl) ?_) (by omega) (by omega) (by omega))) ?_; (focus (repeat (first | with_reducible exact Bel.refl _ | with_reducible assumption | apply Bel.ext | apply Bel.alloc | apply Bel.drew | exact Bel.refl _))); (focus (repeat (first | with_reducible exact Bel.refl _ | with_reducible assumption | apply Bel.ext | apply Bel.alloc | apply Bel.drew | exact Bel.refl _))); rintro ee ww ⟨rfl, _, rfl, hM⟩))
  go_ret
  exact ⟨H.out ▸ rfl, ext_ex (by (repeat (first | with_reducible exact Bel.refl _ | with_reducible assumption | apply Bel.ext | apply Bel.alloc | apply Bel.drew | exact Bel.refl _ | refine Bel.set ?_ (by first | (simp; done) | (simp [go_sem]; done) | omega) _)) : Bel w _)⟩

set_option maxRecDepth 100000 in
theorem lifted (os : Os) (started : os.Started) (H : Type) (enc : TypeId × Value → H) :
    ReturnsInHanded {} Tryd.checked os 5 .any (fun w args => (Rows.fnExactReadWindowsSpec.pre enc Tryd.prog Tryd.f5 [] false w args ∧ laidMetH Tryd.prog laidR w) ∧ sizedMet enc Tryd.prog Tryd.f5 (OpenSpec.ofChange Rows.fnExactReadWindowsSpec) false w args) (Rows.fnExactReadWindowsSpec.post enc Tryd.prog Tryd.f5 false true false false) := by
  refine returns_laid_shaped (C := Tryd.checked) (X := fun w _ => laidMetH Tryd.prog laidR w) (fun _ _ _ hh h => h.of_heap hh) own started (by kernel_rfl) Tryd.func5
    (ChangeSpec.witness_shaped (enc := enc) (C := Tryd.checked) (os := os) (X := fun w _ => laidMetH Tryd.prog laidR w) false (World.doorLaid Tryd.prog doorSteps os) #[.string ByteArray.empty] 8 rfl (World.shaped_of_RefB (by kernel_rfl) (by kernel_rfl)) (by kernel_rfl) (by kernel_rfl) (by kernel_rfl) (door_metR os _)) ?_
  intro W base args ds gs before hval0 hW _ _ hL hSh _
  have hval : ∀ (j : Nat) t v, Tryd.f5.params[j]? = some t → args[j]? = some v → Value.okWide Tryd.prog W .any base t v := hval0
  have hW' := hW
  obtain ⟨p, q, hA0, hV, rfl, hfz, hnd⟩ := hW
  have hA : DataW.TrodAll enc Tryd.prog W 0 (fun _ => true) true Tryd.f5.params.toList args.toList ds p := hA0
  have hlt : ∀ x ∈ p, x.block < W.heap.size := fun x hx => hW'.lt x (by simp [hx])
  rw [Tryd.params5] at hA hval
  have hK := hA
  obtain ⟨v0, vs0, d0, ds0, p0, q0, hargs, rfl, rfl, h0, r0⟩ := trodAll_cons hA
  obtain ⟨rfl, rfl, rfl⟩ := trodAll_nil r0
  obtain rfl : args = #[v0] := by cases args; simp_all
  obtain ⟨rfl, rfl⟩ := trodVars_none hV
  obtain ⟨s0, rfl, -, -, hz0⟩ := Go.ChangeMaps.open_string Tryd.underlying9 (hval 0 9 v0 rfl rfl) h0
  refine (walk s0 W hz0 (of_laidR hL hSh)).mono fun e W' ⟨he, g, hg⟩ => ?_
  subst he
  have hb : Below W.heap.size W W' := by rw [hg]; exact ext_below W g
  have hARG := trodAll_below hb _ (by kernel_rfl) hlt hK
  exact ⟨_, rfl, [d0], [], _, [], p0 ++ ([]), [], hW', trodAll_cons_mk (shut_bool Tryd.underlying4 _) trodAll_mk0, hARG, rfl, hb.frame _, fun h => by cases h⟩

theorem over : Rows.fnExactReadWindowsRow.holds Tryd.pinned (OpenSpec.ofChange Rows.fnExactReadWindowsSpec) :=
  OpenClaim.holds_of_wide 5 Tryd.f5 rfl rfl rfl rfl rfl rfl rfl ⟨rfl, rfl, rfl, rfl, rfl⟩ rfl rfl rfl rfl rfl (by kernel_rfl) Tryd.func5 (by kernel_rfl)
    (of_decide_eq_true (by kernel_rfl)) (by unfold Func.isWrapper; first | (rw [if_pos (by decide +kernel)]; kernel_rfl) | (rw [if_neg (by decide +kernel)]; exact ⟨rfl, rfl⟩))
    (fun os started H enc _ => lifted os started H enc)


theorem proved : Rows.FnExactReadWindowsCardSaid :=
  Claim7.holds_tied_plain_at .later [] [.data, .data, .data, .sentinel, .sentinel] true Rows.fnExactReadWindowsCard.stood.harness Rows.fnExactReadWindowsCard.stood.looks
    over (fun _ h => by cases h) (by kernel_rfl) (fun _ h => by cases h) fnExactReadWindows_row_tie rfl ⟨rfl, rfl⟩ (by kernel_rfl) rfl
    (fun f fn hf hfn => by
      obtain rfl : f = 5 := Option.some.inj ((show Tryd.prog.funcNamed Rows.fnExactReadWindowsRow.func = some 5 by kernel_rfl).symm.trans hf) |>.symm
      obtain rfl : fn = Tryd.f5 := (Option.some.inj (Tryd.func5.symm.trans hfn)).symm
      exact ⟨by kernel_rfl, fun j t ht => by
        rw [Tryd.params5] at ht
        have hm : t ∈ [9] := by simpa using Array.mem_of_getElem? ht
        have hall : ([9].all fun u => !Tryd.prog.wantsStandIn u) = true := by kernel_rfl
        exact (show Tryd.prog.wantsStandIn t = false by simpa using List.all_eq_true.1 hall t hm)⟩)
    (by kernel_rfl)
end Go.Proofs.YtdneffnnpjgnbacDoor.lawReadWindows
