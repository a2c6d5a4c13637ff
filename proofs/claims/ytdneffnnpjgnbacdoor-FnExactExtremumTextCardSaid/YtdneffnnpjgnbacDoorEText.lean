/- The text of an extremum: what both sides return. -/
import Derived.Test.YtdneffnnpjgnbacDoorTTime2
import Derived.Test.YtdneffnnpjgnbacDoorDeep
namespace Go.Proofs.YtdneffnnpjgnbacDoor
open Go.RowKit

theorem rd_pair {W : World} {e : TypeId} {x y : Int} {q : Nat} (hq : W.heap.size = q) : Rd cel2 (W.alloc (.cells #[.int .i64 x, .int .i64 y] e)) (.slice (some ⟨q, 0, none⟩) 1 1) [(x, y)] := by
  subst hq
  exact rd_of_row (C := cel2) (xs := [(x, y)]) (own_lit W W.heap.size e 2 [.int .i64 x, .int .i64 y] 1 rfl (Nat.le_refl _) (by unfold maxLen; omega))
def extText (xs : List (Int × Int)) (k i : Int) : List UInt8 :=
  if curveB xs && extOk xs.length none [(k, i)] then (if k = 2 then [109, 105, 110, 32] else [109, 97, 120, 32]) ++ timeL (xs.getD i.toNat (0, 0)).1.toNat ++ [32] ++ magL (xs.getD i.toNat (0, 0)).2 else []
theorem extText_min {xs : List (Int × Int)} {j t : Nat} {y : Int} (h1 : curveB xs = true) (h2 : extOk xs.length none [(2, (j : Int))] = true) (h : xs[j]? = some ((t : Int), y)) :
    textS (extText xs 2 j) = ⟨#[109, 105, 110, 32]⟩ ++ textS (timeL t) ++ ⟨#[32]⟩ ++ textS (magL y) := by
  unfold extText
  rw [h1, h2]
  have e : xs.getD j (0, 0) = ((t : Int), y) := by simp [List.getD, h]
  simp only [Bool.and_self, if_true, Int.toNat_natCast, e]
  rw [textS_app, textS_app, textS_app]; rfl
theorem extText_max {xs : List (Int × Int)} {j t : Nat} {y : Int} (h1 : curveB xs = true) (h2 : extOk xs.length none [(1, (j : Int))] = true) (h : xs[j]? = some ((t : Int), y)) :
    textS (extText xs 1 j) = ⟨#[109, 97, 120, 32]⟩ ++ textS (timeL t) ++ ⟨#[32]⟩ ++ textS (magL y) := by
  unfold extText
  rw [h1, h2]
  have e : xs.getD j (0, 0) = ((t : Int), y) := by simp [List.getD, h]
  simp only [Bool.and_self, if_true, Int.toNat_natCast, e, if_neg (show ¬ (1 : Int) = 2 by omega)]
  rw [textS_app, textS_app, textS_app]; rfl
theorem ext_point {w : World} {u : Value} {xs : List (Int × Int)} {j : Nat} {x y : Int} (hu : Rd cel2 w u xs) (hx : xs[j]? = some (x, y)) :
    ∃ bb off m c, u = .slice (some ⟨bb, off, none⟩) m c ∧ j < m ∧ bb < w.heap.size ∧ w.cell? ⟨bb, off + j * 2, none⟩ = some (.int .i64 x) ∧ w.cell? ⟨bb, off + j * 2 + 1, none⟩ = some (.int .i64 y) := by
  obtain ⟨a, m, c, rfl, hs⟩ := hu.sl
  have hlt : j < m := by rw [hs.len]; exact (List.getElem?_eq_some_iff.1 hx).1
  obtain ⟨bb, off, rfl, hb⟩ := hs.base hlt
  obtain ⟨x', y', hx', hc0, hc1⟩ := hs.at2 hlt
  obtain ⟨rfl, rfl⟩ : x = x' ∧ y = y' := by have := hx'.out; rw [hx] at this; simpa using this
  exact ⟨bb, off, m, c, rfl, hlt, hb, hc0, hc1⟩
theorem sizes_E {T M : ByteArray} (h1 : T.size ≤ 9) (h2 : M.size ≤ 10) : ¬ 9223372036854775807 < 4 + T.size ∧ ¬ 9223372036854775807 < 4 + T.size + 1 ∧ ¬ 9223372036854775807 < 4 + T.size + 1 + M.size := by
  generalize T.size = a at *
  generalize M.size = b at *
  refine ⟨?_, ?_, ?_⟩ <;> refine Nat.not_lt.2 ?_
  · exact Nat.le_trans (Nat.add_le_add_left h1 4) (by decide)
  · exact Nat.le_trans (Nat.add_le_add_right (Nat.add_le_add_left h1 4) 1) (by decide)
  · exact Nat.le_trans (Nat.add_le_add (Nat.add_le_add_right (Nat.add_le_add_left h1 4) 1) h2) (by decide)
set_option maxRecDepth 100000 in
set_option maxHeartbeats 4000000 in
theorem sExtremumText_c (u : Value) (xs : List (Int × Int)) (k i : Int) (w : World) (hu : Rd cel2 w u xs) :
    Calls Tryd.prog 20 #[u, .agg #[.int .i64 k, .int .i64 i]] w (Ret (.string (textS (extText xs k i))) w) := by
  refine hide_ret fun v H => ?_
  have HV := Lib.hid (fun w hu => l08Ok_c u xs w hu)
  rcases h1 : curveB xs with _ | _
  · rw [h1] at HV
    have HV2 := Lib.hid (H.out.symm.trans (show _ = Value.string ⟨#[]⟩ by unfold extText; rw [h1]; rfl))
    clear h1 H
    go_enter Tryd.func20, Tryd.ntmps20
    go_wp2_with (first | (go_at_call 39; refine Calls.mono (HV.out _ (hu.bel ?_)) ?_; (focus (repeat (first | with_reducible exact Bel.refl _ | with_reducible assumption | apply Bel.ext | apply Bel.alloc | apply Bel.drew | exact Bel.refl _))); rintro ee ww ⟨rfl, _, rfl⟩))
    go_ret
    exact Ret.mk HV2.out.symm (by (repeat (first | with_reducible exact Bel.refl _ | with_reducible assumption | apply Bel.ext | apply Bel.alloc | apply Bel.drew | exact Bel.refl _ | refine Bel.set ?_ (by first | (simp; done) | (simp [go_sem]; done) | omega) _)) : Bel _ _)
  rw [h1] at HV
  have HE := Lib.hid (fun u2 w hu hu2 => l12List_c u xs u2 [(k, i)] w hu hu2)
  rcases h2 : extOk xs.length none [(k, i)] with _ | _
  · rw [h2] at HE
    have HV2 := Lib.hid (H.out.symm.trans (show _ = Value.string ⟨#[]⟩ by unfold extText; rw [h1, h2]; rfl))
    clear h1 h2 H
    go_enter Tryd.func20, Tryd.ntmps20
    go_wp2_with (first | (go_at_call 39; refine Calls.mono (HV.out _ (hu.bel ?_)) ?_; (focus (repeat (first | with_reducible exact Bel.refl _ | with_reducible assumption | apply Bel.ext | apply Bel.alloc | apply Bel.drew | exact Bel.refl _))); rintro ee ww ⟨rfl, _, rfl⟩) | (go_at_call 40; refine Calls.mono (HE.out _ _ (hu.bel ?_) (rd_pair ?_)) ?_; (focus (repeat (first | with_reducible exact Bel.refl _ | with_reducible assumption | apply Bel.ext | apply Bel.alloc | apply Bel.drew | exact Bel.refl _))); (focus (first | (simp; done) | rfl)); rintro ee ww ⟨rfl, _, rfl⟩))
    go_ret
    exact Ret.mk HV2.out.symm (by (repeat (first | with_reducible exact Bel.refl _ | with_reducible assumption | apply Bel.ext | apply Bel.alloc | apply Bel.drew | exact Bel.refl _ | refine Bel.set ?_ (by first | (simp; done) | (simp [go_sem]; done) | omega) _)) : Bel _ _)
  rw [h2] at HE
  obtain ⟨k1, k2, i1, i2⟩ := extOk_get h2 (k := 0) rfl
  dsimp only at k1 k2 i1 i2
  obtain ⟨j, rfl⟩ : ∃ j : Nat, i = (j : Int) := ⟨i.toNat, by omega⟩
  obtain ⟨⟨x, y⟩, hx⟩ : ∃ z, xs[j]? = some z := ⟨xs[j]'(by omega), List.getElem?_eq_getElem (by omega)⟩
  obtain ⟨x1, x2, y1, y2⟩ := curve_get h1 hx
  dsimp only at x1 x2 y1 y2
  obtain ⟨t, rfl⟩ : ∃ t : Nat, x = (t : Int) := ⟨x.toNat, by omega⟩
  have D1 := Lib.hid (fun w => sTimeText_c t (by omega) w)
  have D2 := Lib.hid (fun w => l02Text_c y y1 y2 w)
  have z1 := timeL_le (t := t) (by omega)
  have z2 := magL_le y1 y2
  obtain rfl | rfl : k = 1 ∨ k = 2 := by omega
  · rw [extText_max h1 h2 hx] at H
    clear h1 h2
    have HX := Lib.hid hx
    have HI := Lib.hid i2
    clear hx i2
    generalize textS (timeL t) = T at *
    generalize textS (magL y) = M at *
    obtain ⟨q1, q2, q3⟩ := sizes_E z1 z2
    go_enter Tryd.func20, Tryd.ntmps20
    go_wp2_with (first | (go_at_call 39; refine Calls.mono (HV.out _ (hu.bel ?_)) ?_; (focus (repeat (first | with_reducible exact Bel.refl _ | with_reducible assumption | apply Bel.ext | apply Bel.alloc | apply Bel.drew | exact Bel.refl _))); rintro ee ww ⟨rfl, _, rfl⟩) | (go_at_call 40; refine Calls.mono (HE.out _ _ (hu.bel ?_) (rd_pair ?_)) ?_; (focus (repeat (first | with_reducible exact Bel.refl _ | with_reducible assumption | apply Bel.ext | apply Bel.alloc | apply Bel.drew | exact Bel.refl _))); (focus (first | (simp; done) | rfl)); rintro ee ww ⟨rfl, _, rfl⟩))
    obtain ⟨bb, off, m, c, rfl, hlt, hb, hc0, hc1⟩ := ext_point hu HX.out
    go_region_held3 (fun q_ => q_.cell? ⟨w.heap.size, 1, none⟩ = some (.int .i64 j) ∧ q_.cell? ⟨bb, off + j * 2, none⟩ = some (.int .i64 t) ∧ q_.cell? ⟨bb, off + j * 2 + 1, none⟩ = some (.int .i64 y)) (simp [go_sem, *]) (first | (go_at_call 41; refine args_g1 (.int .i64 (t : Int)) (by with_reducible rfl) ?_; refine Calls.mono (D1.out _) ?_; rintro ee ww ⟨rfl, _, rfl⟩) | (go_at_call 42; refine args_g1 (.int .i64 y) (by with_reducible rfl) ?_; refine Calls.mono (D2.out _) ?_; rintro ee ww ⟨rfl, _, rfl⟩))
    go_wp2_with fail
    go_ret
    exact Ret.mk H.out (by (repeat (first | with_reducible exact Bel.refl _ | with_reducible assumption | apply Bel.ext | apply Bel.alloc | apply Bel.drew | exact Bel.refl _ | refine Bel.set ?_ (by first | (simp; done) | (simp [go_sem]; done) | omega) _)) : Bel _ _)
  · rw [extText_min h1 h2 hx] at H
    clear h1 h2
    have HX := Lib.hid hx
    have HI := Lib.hid i2
    clear hx i2
    generalize textS (timeL t) = T at *
    generalize textS (magL y) = M at *
    obtain ⟨q1, q2, q3⟩ := sizes_E z1 z2
    go_enter Tryd.func20, Tryd.ntmps20
    go_wp2_with (first | (go_at_call 39; refine Calls.mono (HV.out _ (hu.bel ?_)) ?_; (focus (repeat (first | with_reducible exact Bel.refl _ | with_reducible assumption | apply Bel.ext | apply Bel.alloc | apply Bel.drew | exact Bel.refl _))); rintro ee ww ⟨rfl, _, rfl⟩) | (go_at_call 40; refine Calls.mono (HE.out _ _ (hu.bel ?_) (rd_pair ?_)) ?_; (focus (repeat (first | with_reducible exact Bel.refl _ | with_reducible assumption | apply Bel.ext | apply Bel.alloc | apply Bel.drew | exact Bel.refl _))); (focus (first | (simp; done) | rfl)); rintro ee ww ⟨rfl, _, rfl⟩))
    obtain ⟨bb, off, m, c, rfl, hlt, hb, hc0, hc1⟩ := ext_point hu HX.out
    go_region_held3 (fun q_ => q_.cell? ⟨w.heap.size, 1, none⟩ = some (.int .i64 j) ∧ q_.cell? ⟨bb, off + j * 2, none⟩ = some (.int .i64 t) ∧ q_.cell? ⟨bb, off + j * 2 + 1, none⟩ = some (.int .i64 y)) (simp [go_sem, *]) (first | (go_at_call 41; refine args_g1 (.int .i64 (t : Int)) (by with_reducible rfl) ?_; refine Calls.mono (D1.out _) ?_; rintro ee ww ⟨rfl, _, rfl⟩) | (go_at_call 42; refine args_g1 (.int .i64 y) (by with_reducible rfl) ?_; refine Calls.mono (D2.out _) ?_; rintro ee ww ⟨rfl, _, rfl⟩))
    go_wp2_with fail
    go_ret
    exact Ret.mk H.out (by (repeat (first | with_reducible exact Bel.refl _ | with_reducible assumption | apply Bel.ext | apply Bel.alloc | apply Bel.drew | exact Bel.refl _ | refine Bel.set ?_ (by first | (simp; done) | (simp [go_sem]; done) | omega) _)) : Bel _ _)
set_option maxRecDepth 100000 in
set_option maxHeartbeats 4000000 in
theorem ExtremumText_c (u : Value) (xs : List (Int × Int)) (k i : Int) (w : World) (hu : Rd cel2 w u xs) (ht : TabW w) :
    Calls Tryd.prog 23 #[u, .agg #[.int .i64 k, .int .i64 i]] w (Ret (.string (textS (extText xs k i))) w) := by
  refine hide_ret fun v H => ?_
  have HT := Lib.hid ht
  clear ht
  have HV := Lib.hid (fun w hu => ValidCurve_c u xs w hu)
  rcases h1 : curveB xs with _ | _
  · rw [h1] at HV
    have HV2 := Lib.hid (H.out.symm.trans (show _ = Value.string ⟨#[]⟩ by unfold extText; rw [h1]; rfl))
    clear h1 H
    go_enter Tryd.func23, Tryd.ntmps23
    go_wp2_with (first | (go_at_call 44; refine Calls.mono (HV.out _ (hu.bel ?_)) ?_; (focus (repeat (first | with_reducible exact Bel.refl _ | with_reducible assumption | apply Bel.ext | apply Bel.alloc | apply Bel.drew | exact Bel.refl _))); rintro ee ww ⟨rfl, _, rfl⟩))
    go_ret
    exact Ret.mk HV2.out.symm (by (repeat (first | with_reducible exact Bel.refl _ | with_reducible assumption | apply Bel.ext | apply Bel.alloc | apply Bel.drew | exact Bel.refl _ | refine Bel.set ?_ (by first | (simp; done) | (simp [go_sem]; done) | omega) _)) : Bel _ _)
  rw [h1] at HV
  have HE := Lib.hid (fun u2 w hu hu2 => areExtrema_c u xs u2 [(k, i)] w hu hu2)
  rcases h2 : extOk xs.length none [(k, i)] with _ | _
  · rw [h2] at HE
    have HV2 := Lib.hid (H.out.symm.trans (show _ = Value.string ⟨#[]⟩ by unfold extText; rw [h1, h2]; rfl))
    clear h1 h2 H
    go_enter Tryd.func23, Tryd.ntmps23
    go_wp2_with (first | (go_at_call 44; refine Calls.mono (HV.out _ (hu.bel ?_)) ?_; (focus (repeat (first | with_reducible exact Bel.refl _ | with_reducible assumption | apply Bel.ext | apply Bel.alloc | apply Bel.drew | exact Bel.refl _))); rintro ee ww ⟨rfl, _, rfl⟩) | (go_at_call 45; refine Calls.mono (HE.out _ _ (hu.bel ?_) (rd_pair ?_)) ?_; (focus (repeat (first | with_reducible exact Bel.refl _ | with_reducible assumption | apply Bel.ext | apply Bel.alloc | apply Bel.drew | exact Bel.refl _))); (focus (first | (simp; done) | rfl)); rintro ee ww ⟨rfl, _, rfl⟩))
    go_ret
    exact Ret.mk HV2.out.symm (by (repeat (first | with_reducible exact Bel.refl _ | with_reducible assumption | apply Bel.ext | apply Bel.alloc | apply Bel.drew | exact Bel.refl _ | refine Bel.set ?_ (by first | (simp; done) | (simp [go_sem]; done) | omega) _)) : Bel _ _)
  rw [h2] at HE
  obtain ⟨k1, k2, i1, i2⟩ := extOk_get h2 (k := 0) rfl
  dsimp only at k1 k2 i1 i2
  obtain ⟨j, rfl⟩ : ∃ j : Nat, i = (j : Int) := ⟨i.toNat, by omega⟩
  obtain ⟨⟨x, y⟩, hx⟩ : ∃ z, xs[j]? = some z := ⟨xs[j]'(by omega), List.getElem?_eq_getElem (by omega)⟩
  obtain ⟨x1, x2, y1, y2⟩ := curve_get h1 hx
  dsimp only at x1 x2 y1 y2
  obtain ⟨t, rfl⟩ : ∃ t : Nat, x = (t : Int) := ⟨x.toNat, by omega⟩
  have D1 := Lib.hid (fun x (hx : Bel w x) => TimeText_c t (by omega) x (HT.out.bel hx))
  have D2 := Lib.hid (fun x (hx : Bel w x) => MagText_c y y1 y2 x (HT.out.bel hx))
  have z1 := timeL_le (t := t) (by omega)
  have z2 := magL_le y1 y2
  obtain rfl | rfl : k = 1 ∨ k = 2 := by omega
  · rw [extText_max h1 h2 hx] at H
    clear h1 h2
    have HX := Lib.hid hx
    have HI := Lib.hid i2
    clear hx i2
    generalize textS (timeL t) = T at *
    generalize textS (magL y) = M at *
    obtain ⟨q1, q2, q3⟩ := sizes_E z1 z2
    obtain ⟨bb, off, m, c, rfl, hlt, hb, hc0, hc1⟩ := ext_point hu HX.out
    have HU := Lib.hid (fun x (hx : Bel w x) => hu.bel hx)
    clear hu
    go_enter Tryd.func23, Tryd.ntmps23
    go_wp2_with (first | (go_at_call 44; refine Calls.mono (HV.out _ (HU.out _ ?_)) ?_; (focus (repeat (first | with_reducible exact Bel.refl _ | with_reducible assumption | apply Bel.ext | apply Bel.alloc | apply Bel.drew | exact Bel.refl _))); rintro ee ww ⟨rfl, g1, rfl⟩) | (go_at_call 45; refine Calls.mono (HE.out _ _ (HU.out _ ?_) (rd_pair ?_)) ?_; (focus (repeat (first | with_reducible exact Bel.refl _ | with_reducible assumption | apply Bel.ext | apply Bel.alloc | apply Bel.drew | exact Bel.refl _))); (focus (first | (simp; done) | rfl)); rintro ee ww ⟨rfl, g2, rfl⟩))
    obtain ⟨X, hX⟩ : ∃ X, ext ((ext (w.alloc (.cells #[.int .i64 1, .int .i64 (j : Int)] 46)) g1).alloc (.cells #[.int .i64 1, .int .i64 (j : Int)] 46)) g2 = X := ⟨_, rfl⟩
    have hbX : Bel w X := by rw [← hX]; (repeat (first | with_reducible exact Bel.refl _ | with_reducible assumption | apply Bel.ext | apply Bel.alloc | apply Bel.drew | exact Bel.refl _ | refine Bel.set ?_ (by first | (simp; done) | (simp [go_sem]; done) | omega) _))
    simp only [hX]
    clear hX
    go_region_held3 (fun q_ => q_.cell? ⟨X.heap.size, 0, none⟩ = some (.int .i64 t) ∧ q_.cell? ⟨X.heap.size, 1, none⟩ = some (.int .i64 y)) (simp [go_sem, *]) (first | (go_at_call 46; refine args_g1 (.int .i64 (t : Int)) (by with_reducible rfl) ?_; refine Calls.mono (D1.out _ ?_) ?_; (focus (repeat (first | with_reducible exact Bel.refl _ | with_reducible assumption | apply Bel.ext | apply Bel.alloc | apply Bel.drew | exact Bel.refl _))); rintro ee ww ⟨rfl, _, rfl⟩) | (go_at_call 47; refine args_g1 (.int .i64 y) (by with_reducible rfl) ?_; refine Calls.mono (D2.out _ ?_) ?_; (focus (repeat (first | with_reducible exact Bel.refl _ | with_reducible assumption | apply Bel.ext | apply Bel.alloc | apply Bel.drew | exact Bel.refl _))); rintro ee ww ⟨rfl, _, rfl⟩))
    go_wp2_with fail
    go_ret
    exact Ret.mk H.out (by (repeat (first | with_reducible exact Bel.refl _ | with_reducible assumption | apply Bel.ext | apply Bel.alloc | apply Bel.drew | exact Bel.refl _ | refine Bel.set ?_ (by first | (simp; done) | (simp [go_sem]; done) | omega) _)) : Bel _ _)
  · rw [extText_min h1 h2 hx] at H
    clear h1 h2
    have HX := Lib.hid hx
    have HI := Lib.hid i2
    clear hx i2
    generalize textS (timeL t) = T at *
    generalize textS (magL y) = M at *
    obtain ⟨q1, q2, q3⟩ := sizes_E z1 z2
    obtain ⟨bb, off, m, c, rfl, hlt, hb, hc0, hc1⟩ := ext_point hu HX.out
    have HU := Lib.hid (fun x (hx : Bel w x) => hu.bel hx)
    clear hu
    go_enter Tryd.func23, Tryd.ntmps23
    go_wp2_with (first | (go_at_call 44; refine Calls.mono (HV.out _ (HU.out _ ?_)) ?_; (focus (repeat (first | with_reducible exact Bel.refl _ | with_reducible assumption | apply Bel.ext | apply Bel.alloc | apply Bel.drew | exact Bel.refl _))); rintro ee ww ⟨rfl, g1, rfl⟩) | (go_at_call 45; refine Calls.mono (HE.out _ _ (HU.out _ ?_) (rd_pair ?_)) ?_; (focus (repeat (first | with_reducible exact Bel.refl _ | with_reducible assumption | apply Bel.ext | apply Bel.alloc | apply Bel.drew | exact Bel.refl _))); (focus (first | (simp; done) | rfl)); rintro ee ww ⟨rfl, g2, rfl⟩))
    obtain ⟨X, hX⟩ : ∃ X, ext ((ext (w.alloc (.cells #[.int .i64 2, .int .i64 (j : Int)] 46)) g1).alloc (.cells #[.int .i64 2, .int .i64 (j : Int)] 46)) g2 = X := ⟨_, rfl⟩
    have hbX : Bel w X := by rw [← hX]; (repeat (first | with_reducible exact Bel.refl _ | with_reducible assumption | apply Bel.ext | apply Bel.alloc | apply Bel.drew | exact Bel.refl _ | refine Bel.set ?_ (by first | (simp; done) | (simp [go_sem]; done) | omega) _))
    simp only [hX]
    clear hX
    go_region_held3 (fun q_ => q_.cell? ⟨X.heap.size, 0, none⟩ = some (.int .i64 t) ∧ q_.cell? ⟨X.heap.size, 1, none⟩ = some (.int .i64 y)) (simp [go_sem, *]) (first | (go_at_call 46; refine args_g1 (.int .i64 (t : Int)) (by with_reducible rfl) ?_; refine Calls.mono (D1.out _ ?_) ?_; (focus (repeat (first | with_reducible exact Bel.refl _ | with_reducible assumption | apply Bel.ext | apply Bel.alloc | apply Bel.drew | exact Bel.refl _))); rintro ee ww ⟨rfl, _, rfl⟩) | (go_at_call 47; refine args_g1 (.int .i64 y) (by with_reducible rfl) ?_; refine Calls.mono (D2.out _ ?_) ?_; (focus (repeat (first | with_reducible exact Bel.refl _ | with_reducible assumption | apply Bel.ext | apply Bel.alloc | apply Bel.drew | exact Bel.refl _))); rintro ee ww ⟨rfl, _, rfl⟩))
    go_wp2_with fail
    go_ret
    exact Ret.mk H.out (by (repeat (first | with_reducible exact Bel.refl _ | with_reducible assumption | apply Bel.ext | apply Bel.alloc | apply Bel.drew | exact Bel.refl _ | refine Bel.set ?_ (by first | (simp; done) | (simp [go_sem]; done) | omega) _)) : Bel _ _)
end Go.Proofs.YtdneffnnpjgnbacDoor
