/- 'strings.Cut' at any string; the program's 'readRange'. -/
import Derived.Test.YtdneffnnpjgnbacDoorRPlain
import Derived.WalkSmall
namespace Go.Proofs.YtdneffnnpjgnbacDoor
open Go.RowKit

/-- what the library's own variable holds: some number -/
def CutW (w : World) : Prop := ∃ m : Int, w.cell? ⟨0, 0, none⟩ = some (.int .i64 m)
theorem CutW.bel {w x : World} (h : CutW w) (hb : Bel w x) : CutW x := by
  obtain ⟨m, hm⟩ := h
  exact ⟨m, by rw [Below.cell hb (p := ⟨0, 0, none⟩) (Lib.lt_of_cell hm)]; exact hm⟩
theorem Cut_c (s sep : ByteArray) (hs : s.size ≤ 1048576) (w : World) (hc : CutW w) :
    Calls Tryd.prog 37 #[.string s, .string sep] w (Ret (.tuple #[.string (textS (Lib.cut s.data.toList sep.data.toList).1), .string (textS (Lib.cut s.data.toList sep.data.toList).2.1), .bool (Lib.cut s.data.toList sep.data.toList).2.2]) w) := by
  obtain ⟨m, hm⟩ := hc
  refine (Tryd.strings_Cut s sep m w (by omega) hm).mono ?_
  rintro e w' ⟨rfl, n, rfl⟩
  exact ⟨rfl, ext_ex (below_drewN (Below.refl _ _) _)⟩
set_option maxHeartbeats 1000000 in
theorem readRange_c (s : ByteArray) (hs : s.size ≤ 1048576) (w : World) (ht : TabW w) (he : ErrV w) (hc : CutW w) :
    Calls Tryd.prog 38 #[.string s] w (Ret (.tuple #[.int .i64 (rangeR s.data.toList).1, .int .i64 (rangeR s.data.toList).2.1, .bool (rangeR s.data.toList).2.2]) w) := by
  refine hide_ret fun v H => ?_
  have HT := Lib.hid ht
  have HE := Lib.hid he
  have C1 := Lib.hid (Cut_c s ⟨#[46, 46]⟩ hs w hc)
  have l1 := cut_le1 s.data.toList [46, 46]
  have l2 := cut_le2 s.data.toList [46, 46]
  have hz : s.data.toList.length = s.size := by simp
  rw [show (⟨#[46, 46]⟩ : ByteArray).data.toList = [46, 46] from rfl] at C1
  unfold rangeR at H
  have z1 := textS_size (Lib.cut s.data.toList [46, 46]).1
  have z2 := textS_size (Lib.cut s.data.toList [46, 46]).2.1
  have D1 := Lib.hid (fun x (hx : Bel w x) => ReadDecimal_c (textS (Lib.cut s.data.toList [46, 46]).1) (by omega) x (HT.out.bel hx) (HE.out.bel hx))
  have D2 := Lib.hid (fun x (hx : Bel w x) => ReadDecimal_c (textS (Lib.cut s.data.toList [46, 46]).2.1) (by omega) x (HT.out.bel hx) (HE.out.bel hx))
  simp only [textS_data] at D1 D2
  rcases h1 : numR (Lib.cut s.data.toList [46, 46]).1 with ⟨a1, b1⟩
  rcases h2 : numR (Lib.cut s.data.toList [46, 46]).2.1 with ⟨a2, b2⟩
  rw [h1] at D1 H
  rw [h2] at D2 H
  dsimp only at H D1 D2
  clear h1 h2 hz l1 l2 z1 z2 ht he hc
  generalize textS (Lib.cut s.data.toList [46, 46]).1 = T1 at *
  generalize textS (Lib.cut s.data.toList [46, 46]).2.1 = T2 at *
  generalize (Lib.cut s.data.toList [46, 46]).2.2 = T3 at *
  rcases b1 with _ | _ <;> rcases b2 with _ | _
  all_goals
    go_enter Tryd.func38, Tryd.ntmps38
    go_wp2_with (first | (go_at_call 37; refine Calls.mono (C1.out) ?_; rintro ee ww ⟨rfl, _, rfl⟩) | (go_at_call 59; refine args_g1 (.string T1) (by with_reducible rfl) ?_; refine Calls.mono (D1.out _ ?_) ?_; (focus (repeat (first | with_reducible exact Bel.refl _ | with_reducible assumption | apply Bel.ext | apply Bel.alloc | apply Bel.drew | exact Bel.refl _))); rintro ee ww ⟨rfl, _, rfl⟩) | (go_at_call 59; refine args_g1 (.string T2) (by with_reducible rfl) ?_; refine Calls.mono (D2.out _ ?_) ?_; (focus (repeat (first | with_reducible exact Bel.refl _ | with_reducible assumption | apply Bel.ext | apply Bel.alloc | apply Bel.drew | exact Bel.refl _))); rintro ee ww ⟨rfl, _, rfl⟩))
    refine bodyPost_ret (v := v) (by rw [← H.out]; simp (maxDischargeDepth := 8) [results, Tryd.results38, go_sem]) rfl (Ret.mk rfl (?_ : Bel _ _))
    (repeat (first | with_reducible exact Bel.refl _ | with_reducible assumption | apply Bel.ext | apply Bel.alloc | apply Bel.drew | exact Bel.refl _ | refine Bel.set ?_ (by first | (simp; done) | (simp [go_sem]; done) | omega) _))
end Go.Proofs.YtdneffnnpjgnbacDoor
