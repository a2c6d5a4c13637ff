/- The text of windows: what both sides return. -/
import Derived.Test.YtdneffnnpjgnbacDoorAText2
import Derived.Test.YtdneffnnpjgnbacDoorWindows
namespace Go.Proofs.YtdneffnnpjgnbacDoor
open Go.RowKit

/-- words with blanks between them -/
def textF {α : Type} (f : α → List UInt8) (xs : List α) : List UInt8 := Lib.join (xs.map f) [32]
theorem textF_zero {α : Type} {f : α → List UInt8} {xs : List α} {x : α} (h : xs[0]? = some x) : textF f (xs.take 1) = f x := by
  rw [show (1 : Nat) = 0 + 1 from rfl, take_snoc_of h]
  simp [textF, Lib.join_one]
theorem textF_succ {α : Type} {f : α → List UInt8} {xs : List α} {k : Nat} {x : α} (h : xs[k]? = some x) (hk : 0 < k) : textF f (xs.take (k + 1)) = textF f (xs.take k) ++ [32] ++ f x := by
  rw [take_snoc_of h]
  unfold textF
  rw [List.map_append, List.map_cons, List.map_nil, join_snoc, if_neg]
  intro e
  have h1 := (List.getElem?_eq_some_iff.1 h).1
  have h2 := congrArg List.length e
  rw [List.length_map, List.length_take, List.length_nil] at h2
  omega
theorem textF_le {α : Type} {f : α → List UInt8} {n : Nat} {xs : List α} (h : ∀ x ∈ xs, (f x).length ≤ n) : (textF f xs).length ≤ (n + 1) * xs.length := by
  have := join_le (n := n) (xs.map f) fun w hw => by
    obtain ⟨x, hx, rfl⟩ := List.mem_map.1 hw
    exact h x hx
  simpa [textF] using this
theorem grown_cell {a b : World} {r : Option Nat} (h : a.grownBy b r) {k o : Nat} (hk : k < a.heap.size) (hr : r ≠ some k) : b.cell? ⟨k, o, none⟩ = a.cell? ⟨k, o, none⟩ := by
  have e := h.block k hk (Ne.symm hr)
  unfold World.cell?
  dsimp only
  rw [e]
def wordW (z : Int × Int) : List UInt8 := Lib.itoa z.1 ++ [46, 46] ++ Lib.itoa z.2
theorem wordW_S (x y : Int) : textS (wordW (x, y)) = textS (Lib.itoa x) ++ ⟨#[46, 46]⟩ ++ textS (Lib.itoa y) := by
  unfold wordW
  rw [textS_app, textS_app]; rfl
def textW (xs : List (Int × Int)) : List UInt8 := if windowsB xs = true then textF wordW xs else []
set_option maxHeartbeats 4000000 in
theorem l15Text_c (u : Value) (xs : List (Int × Int)) (hw : windowsB xs = true) (w : World) (hu : Rd cel2 w u xs) :
    Calls Tryd.prog 30 #[u] w (Ret (.string (textS (textF wordW xs))) w) := by
  refine hide_ret fun v H => ?_
  obtain ⟨a, m, c, rfl, hs⟩ := hu.sl
  have hcap := hs.le; have hmax := hs.cap
  unfold maxLen at hmax
  have HL := Lib.hid hs.len
  have hM30 := windowsB_len hw
  rw [← HL.out] at hM30
  have HG : Hid (∀ (k : Nat) (x : Int × Int), xs[k]? = some x → 0 ≤ x.1 ∧ x.1 ≤ 10000000 ∧ 0 ≤ x.2 ∧ x.2 ≤ 10000000 ∧ x.1 ≤ x.2) := Lib.hid (fun k x hx' => windowsB_get hw hx')
  clear hw hu
  go_enter Tryd.func30, Tryd.ntmps30
  go_wp2
  go_loopw [3, 4] (fun o i wr => ∃ (k : Nat) (s : ByteArray), k ≤ m ∧ i = .int .i64 k ∧ o = .string s ∧ s.size ≤ 45 * k ∧ (∃ g, wr = ext w g) ∧ Hid (s = textS (textF wordW (xs.take k)))) (fun _ i _ => m - (intOf i).toNat)
  case atStart => exact ⟨0, ⟨#[]⟩, Nat.zero_le _, rfl, rfl, Nat.le_refl _, ext_ex (by (repeat (first | with_reducible exact Bel.refl _ | with_reducible assumption | apply Bel.ext | apply Bel.alloc | apply Bel.drew | exact Bel.refl _ | refine Bel.set ?_ (by first | (simp; done) | (simp [go_sem]; done) | omega) _)) : Bel _ _), Lib.hid rfl⟩
  case round =>
    obtain ⟨k, s, hk, rfl, rfl, hsz, ⟨g, rfl⟩, hv⟩ := hrel
    by_cases hlt : k < m
    · obtain ⟨bb, off, rfl, hb⟩ := hs.base hlt
      obtain ⟨x, y, hx, hc0, hc1⟩ := hs.at2 hlt
      obtain ⟨x1, x2, y1, y2, xy⟩ := HG.out k _ hx.out
      dsimp only at x1 x2 y1 y2 xy
      have HD1 := Lib.hid (fun w => l01Dec_c x (by omega) (by omega) w)
      have HD2 := Lib.hid (fun w => l01Dec_c y (by omega) (by omega) w)
      have z1 := itoa_size x (by omega) (by omega)
      have z2 := itoa_size y (by omega) (by omega)
      have HZ : Hid (∀ s', s' = (if k = 0 then s else s ++ ⟨#[32]⟩) ++ textS (wordW (x, y)) → s' = textS (textF wordW (xs.take (k + 1)))) := Lib.hid (fun s' h => by
        rw [h, hv.out]
        rcases Nat.eq_zero_or_pos k with h0 | h0
        · subst h0
          rw [if_pos rfl, Nat.zero_add, textF_zero hx.out, List.take_zero, ← textS_app]; rfl
        · rw [if_neg (by omega), textF_succ hx.out h0, textS_app, textS_app]; rfl)
      rw [wordW_S] at HZ
      clear hv
      generalize textS (Lib.itoa x) = D1 at *
      generalize textS (Lib.itoa y) = D2 at *
      have q1 : ¬ 9223372036854775807 < s.size + 1 := by omega
      have q2 : ¬ 9223372036854775807 < D1.size + 2 := by omega
      have q3 : ¬ 9223372036854775807 < D1.size + 2 + D2.size := by omega
      have q4 : ¬ 9223372036854775807 < s.size + (D1.size + 2 + D2.size) := by omega
      have q5 : ¬ 9223372036854775807 < s.size + 1 + (D1.size + 2 + D2.size) := by omega
      have hkm : (k : Int) < m := by omega
      rcases Nat.eq_zero_or_pos k with h0 | h0
      · subst h0
        rw [if_pos rfl] at HZ
        rw [Nat.zero_mul, Nat.add_zero] at hc0 hc1
        have HN := Lib.hid (HZ.out _ rfl)
        clear HZ
        go_wp2_with fail
        go_region_held3 (fun q_ => q_.cell? ⟨bb, off, none⟩ = some (.int .i64 x) ∧ q_.cell? ⟨bb, off + 1, none⟩ = some (.int .i64 y)) (simp [go_sem, *]) (first | (go_at_call 26; refine args_g1 (.int .i64 x) (by with_reducible rfl) ?_; refine Calls.mono (HD1.out _) ?_; rintro ee ww ⟨rfl, _, rfl⟩) | (go_at_call 26; refine args_g1 (.int .i64 y) (by with_reducible rfl) ?_; refine Calls.mono (HD2.out _) ?_; rintro ee ww ⟨rfl, _, rfl⟩))
        go_wp2_with fail
        go_roundw
        case rel => exact ⟨1, _, by omega, by go_num, rfl, by simp [go_sem]; omega, ext_ex (by (repeat (first | with_reducible exact Bel.refl _ | with_reducible assumption | apply Bel.ext | apply Bel.alloc | apply Bel.drew | exact Bel.refl _ | refine Bel.set ?_ (by first | (simp; done) | (simp [go_sem]; done) | omega) _)) : Bel _ _), HN⟩
        case measure => simp [intOf]; omega
      · rw [if_neg (by omega)] at HZ
        have HN := Lib.hid (HZ.out _ rfl)
        clear HZ
        go_wp2_with fail
        go_region_held3 (fun q_ => q_.cell? ⟨bb, off + k * 2, none⟩ = some (.int .i64 x) ∧ q_.cell? ⟨bb, off + k * 2 + 1, none⟩ = some (.int .i64 y)) (simp [go_sem, *]) (first | (go_at_call 26; refine args_g1 (.int .i64 x) (by with_reducible rfl) ?_; refine Calls.mono (HD1.out _) ?_; rintro ee ww ⟨rfl, _, rfl⟩) | (go_at_call 26; refine args_g1 (.int .i64 y) (by with_reducible rfl) ?_; refine Calls.mono (HD2.out _) ?_; rintro ee ww ⟨rfl, _, rfl⟩))
        go_wp2_with fail
        go_roundw
        case rel => exact ⟨k + 1, _, by omega, by go_num, rfl, by simp [go_sem]; omega, ext_ex (by (repeat (first | with_reducible exact Bel.refl _ | with_reducible assumption | apply Bel.ext | apply Bel.alloc | apply Bel.drew | exact Bel.refl _ | refine Bel.set ?_ (by first | (simp; done) | (simp [go_sem]; done) | omega) _)) : Bel _ _), HN⟩
        case measure => simp [intOf]; omega
    · have hkm : k = m := by omega
      have hv2 := hv.out
      rw [List.take_of_length_le (by rw [← HL.out]; omega)] at hv2
      have HV := Lib.hid (H.out.symm.trans (by rw [← hv2] : _ = Value.string s))
      clear hv hv2
      go_wp2
      go_ret
      exact Ret.mk HV.out.symm (by (repeat (first | with_reducible exact Bel.refl _ | with_reducible assumption | apply Bel.ext | apply Bel.alloc | apply Bel.drew | exact Bel.refl _ | refine Bel.set ?_ (by first | (simp; done) | (simp [go_sem]; done) | omega) _)) : Bel _ _)
set_option maxHeartbeats 1000000 in
theorem sWindowsText_c (u : Value) (xs : List (Int × Int)) (w : World) (hu : Rd cel2 w u xs) :
    Calls Tryd.prog 11 #[u] w (Ret (.string (textS (textW xs))) w) := by
  refine hide_ret fun v H => ?_
  have HV := Lib.hid (fun w hu => l15Ok_c u xs w hu)
  unfold textW at H
  rcases h1 : windowsB xs with _ | _
  · rw [h1] at HV H
    simp only [Bool.not_true, Bool.not_false, if_true, if_false, Bool.false_eq_true] at H
    have HV2 := Lib.hid (H.out.symm.trans (show _ = Value.string ⟨#[]⟩ from rfl))
    clear h1 H
    go_enter Tryd.func11, Tryd.ntmps11
    go_wp2_with (first | (go_at_call 29; refine Calls.mono (HV.out _ (hu.bel ?_)) ?_; (focus (repeat (first | with_reducible exact Bel.refl _ | with_reducible assumption | apply Bel.ext | apply Bel.alloc | apply Bel.drew | exact Bel.refl _))); rintro ee ww ⟨rfl, _, rfl⟩))
    go_ret
    exact Ret.mk HV2.out.symm (by (repeat (first | with_reducible exact Bel.refl _ | with_reducible assumption | apply Bel.ext | apply Bel.alloc | apply Bel.drew | exact Bel.refl _ | refine Bel.set ?_ (by first | (simp; done) | (simp [go_sem]; done) | omega) _)) : Bel _ _)
  · have HT := Lib.hid (fun w hu => l15Text_c u xs h1 w hu)
    rw [h1] at HV H
    simp only [Bool.not_true, Bool.not_false, if_true, if_false, Bool.false_eq_true] at H
    clear h1
    generalize textS (textF wordW xs) = s at *
    go_enter Tryd.func11, Tryd.ntmps11
    go_wp2_with (first | (go_at_call 29; refine Calls.mono (HV.out _ (hu.bel ?_)) ?_; (focus (repeat (first | with_reducible exact Bel.refl _ | with_reducible assumption | apply Bel.ext | apply Bel.alloc | apply Bel.drew | exact Bel.refl _))); rintro ee ww ⟨rfl, _, rfl⟩) | (go_at_call 30; refine Calls.mono (HT.out _ (hu.bel ?_)) ?_; (focus (repeat (first | with_reducible exact Bel.refl _ | with_reducible assumption | apply Bel.ext | apply Bel.alloc | apply Bel.drew | exact Bel.refl _))); rintro ee ww ⟨rfl, _, rfl⟩))
    go_ret
    exact Ret.mk H.out (by (repeat (first | with_reducible exact Bel.refl _ | with_reducible assumption | apply Bel.ext | apply Bel.alloc | apply Bel.drew | exact Bel.refl _ | refine Bel.set ?_ (by first | (simp; done) | (simp [go_sem]; done) | omega) _)) : Bel _ _)
set_option maxRecDepth 100000 in
set_option maxHeartbeats 4000000 in
theorem WindowsText_c (u : Value) (xs : List (Int × Int)) (w : World) (hu : Rd cel2 w u xs) (ht : TabW w) :
    Calls Tryd.prog 13 #[u] w (Ret (.string (textS (textW xs))) w) := by
  refine hide_ret fun v H => ?_
  have HV := Lib.hid (fun w hu => ValidWindows_c u xs w hu)
  unfold textW at H
  rcases hw : windowsB xs with _ | _
  · rw [hw] at HV H
    simp only [Bool.not_true, Bool.not_false, if_true, if_false, Bool.false_eq_true] at H
    have HV2 := Lib.hid (H.out.symm.trans (show _ = Value.string ⟨#[]⟩ from rfl))
    clear hw H
    go_enter Tryd.func13, Tryd.ntmps13
    go_wp2_with (first | (go_at_call 32; refine Calls.mono (HV.out _ (hu.bel ?_)) ?_; (focus (repeat (first | with_reducible exact Bel.refl _ | with_reducible assumption | apply Bel.ext | apply Bel.alloc | apply Bel.drew | exact Bel.refl _))); rintro ee ww ⟨rfl, _, rfl⟩))
    go_ret
    exact Ret.mk HV2.out.symm (by (repeat (first | with_reducible exact Bel.refl _ | with_reducible assumption | apply Bel.ext | apply Bel.alloc | apply Bel.drew | exact Bel.refl _ | refine Bel.set ?_ (by first | (simp; done) | (simp [go_sem]; done) | omega) _)) : Bel _ _)
  rw [hw] at HV H
  simp only [if_true] at H
  obtain ⟨a, m, c, rfl, hs⟩ := hu.sl
  have hcap := hs.le; have hmax := hs.cap
  unfold maxLen at hmax
  have HL := Lib.hid hs.len
  have hM30 := windowsB_len hw
  have HTL : Hid ((textF wordW xs).length ≤ 45 * xs.length) := Lib.hid (textF_le (n := 44) fun x hx => by
    obtain ⟨k, hk⟩ := List.getElem?_of_mem hx
    obtain ⟨x1, x2, y1, y2, xy⟩ := windowsB_get hw hk
    have e1 := Lib.itoa_length_le x.1 (by omega) (by omega)
    have e2 := Lib.itoa_length_le x.2 (by omega) (by omega)
    unfold wordW
    rw [List.length_append, List.length_append, List.length_cons, List.length_cons, List.length_nil]
    omega)
  rw [← HL.out] at hM30
  have HG : Hid (∀ (k : Nat) (x : Int × Int), xs[k]? = some x → 0 ≤ x.1 ∧ x.1 ≤ 10000000 ∧ 0 ≤ x.2 ∧ x.2 ≤ 10000000 ∧ x.1 ≤ x.2) := Lib.hid (fun k x hx' => windowsB_get hw hx')
  have HT := Lib.hid ht
  clear hw hu ht
  go_enter Tryd.func13, Tryd.ntmps13
  go_wp2_with (first | (go_at_call 32; refine Calls.mono (HV.out _ (hs.rd.bel ?_)) ?_; (focus (repeat (first | with_reducible exact Bel.refl _ | with_reducible assumption | apply Bel.ext | apply Bel.alloc | apply Bel.drew | exact Bel.refl _))); rintro ee ww ⟨rfl, _, rfl⟩))
  go_loopw [3, 12] (fun o i wr => ∃ (k b c : Nat), k ≤ m ∧ i = .int .i64 k ∧ o = .slice (some ⟨b, 0, none⟩) k c ∧ b < wr.heap.size ∧ k ≤ c ∧ c ≤ 9223372036854775807 ∧ Bel w wr ∧ Hid (wr.ownsRow w.heap.size 9 1 (.slice (some ⟨b, 0, none⟩) k c) k (celS.row ((xs.take k).map (fun z => textS (wordW z)))))) (fun _ i _ => m - (intOf i).toNat)
  case atStart =>
    refine ⟨0, _, 0, Nat.zero_le _, rfl, rfl, ?_, by simp, by omega, by (repeat (first | with_reducible exact Bel.refl _ | with_reducible assumption | apply Bel.ext | apply Bel.alloc | apply Bel.drew | exact Bel.refl _ | refine Bel.set ?_ (by first | (simp; done) | (simp [go_sem]; done) | omega) _)), Lib.hid ?_⟩
    rotate_left
    · exact own_lit _ _ 9 1 [] 0 rfl (bel_size (by (repeat (first | with_reducible exact Bel.refl _ | with_reducible assumption | apply Bel.ext | apply Bel.alloc | apply Bel.drew | exact Bel.refl _ | refine Bel.set ?_ (by first | (simp; done) | (simp [go_sem]; done) | omega) _)) : Bel w _)) (by unfold maxLen; omega)
    · simp
  case round =>
    obtain ⟨k, b, c3, hk, rfl, rfl, hb3, hc3, hc4, hbel, hown⟩ := hrel
    obtain ⟨g4, rfl⟩ := ext_ex hbel
    generalize ext w g4 = X at *
    by_cases hlt : k < m
    · have hsX := hs.bel hbel
      obtain ⟨bb, off, rfl, hb⟩ := hsX.base hlt
      obtain ⟨x, y, hx, hc0, hc1⟩ := hsX.at2 hlt
      obtain ⟨x1, x2, y1, y2, xy⟩ := HG.out k _ hx.out
      dsimp only at x1 x2 y1 y2 xy
      have HD1 := Lib.hid (fun z (hz : Bel w z) => Decimal_c x (by omega) (by omega) z (HT.out.bel hz))
      have HD2 := Lib.hid (fun z (hz : Bel w z) => Decimal_c y (by omega) (by omega) z (HT.out.bel hz))
      have z1 := itoa_size x (by omega) (by omega)
      have z2 := itoa_size y (by omega) (by omega)
      have HW : Hid (∀ s, s = textS (wordW (x, y)) → celS.row ((xs.take (k + 1)).map (fun z => textS (wordW z))) = celS.row ((xs.take k).map (fun z => textS (wordW z))) ++ [.string s]) := Lib.hid (fun s h => by
        rw [take_snoc_of hx.out, List.map_append, Cel.row_append, List.map_cons, List.map_nil, Cel.row_one, h]; rfl)
      rw [wordW_S] at HW
      generalize textS (Lib.itoa x) = D1 at *
      generalize textS (Lib.itoa y) = D2 at *
      have HN := Lib.hid (HW.out _ rfl)
      have q2 : ¬ 9223372036854775807 < D1.size + 2 := by omega
      have q3 : ¬ 9223372036854775807 < D1.size + 2 + D2.size := by omega
      clear HW hs
      go_wp2_with fail
      go_region_held3 (fun q => q.cell? ⟨X.heap.size, 0, none⟩ = some (.int .i64 x) ∧ q.cell? ⟨X.heap.size, 1, none⟩ = some (.int .i64 y)) (simp [go_sem, *]) (first | (refine step_append_new (by rfl) (.tmp 16) (.tmp 25) 57 9 1 16 (by rfl) appS (by decide) w _ _ _ 1 [.string (D1 ++ ⟨#[46, 46]⟩ ++ D2)] (by rfl) _ (by rfl) (by rfl) (by intro u hu; simp at hu; subst hu; rfl) (by intro j u hu; rcases j with _ | _ | _ | j <;> simp at hu <;> subst hu <;> simp [go_sem]) (own_bel hown.out ?_) ?_ (by omega) (by omega) ?_; (focus (repeat (first | with_reducible exact Bel.refl _ | with_reducible assumption | apply Bel.ext | apply Bel.alloc | apply Bel.drew | exact Bel.refl _))); (focus (repeat (first | with_reducible exact Bel.refl _ | with_reducible assumption | apply Bel.ext | apply Bel.alloc | apply Bel.drew | exact Bel.refl _))); intro v2 g2 hown2 hgr2; have hk0 : (ext w g2).cell? ⟨X.heap.size, 0, none⟩ = some (.int .i64 x) := (by rw [grown_cell hgr2 (by simp [go_sem]) (by simp [Value.ownBlock]; omega)]; simp [go_sem]); have hk1 : (ext w g2).cell? ⟨X.heap.size, 1, none⟩ = some (.int .i64 y) := (by rw [grown_cell hgr2 (by simp [go_sem]) (by simp [Value.ownBlock]; omega)]; simp [go_sem])) | (go_at_call 28; refine args_g1 (.int .i64 x) (by with_reducible rfl) ?_; refine Calls.mono (HD1.out _ ?_) ?_; (focus (repeat (first | with_reducible exact Bel.refl _ | with_reducible assumption | apply Bel.ext | apply Bel.alloc | apply Bel.drew | exact Bel.refl _))); rintro ee ww ⟨rfl, _, rfl⟩) | (go_at_call 28; refine args_g1 (.int .i64 y) (by with_reducible rfl) ?_; refine Calls.mono (HD2.out _ ?_) ?_; (focus (repeat (first | with_reducible exact Bel.refl _ | with_reducible assumption | apply Bel.ext | apply Bel.alloc | apply Bel.drew | exact Bel.refl _))); rintro ee ww ⟨rfl, _, rfl⟩))
      have hown3 := own_castY hown2 rfl HN.out.symm
      clear hown2 hgr2 hk0 hk1
      obtain ⟨b5, c5, rfl, hb5, hc5, hc6⟩ := own_strs hown3 (by omega)
      unfold maxLen at hc6
      go_wp2_with fail
      go_roundw
      case rel => exact ⟨k + 1, b5, c5, by omega, by go_num, rfl, hb5, hc5, by omega, by (repeat (first | with_reducible exact Bel.refl _ | with_reducible assumption | apply Bel.ext | apply Bel.alloc | apply Bel.drew | exact Bel.refl _ | refine Bel.set ?_ (by first | (simp; done) | (simp [go_sem]; done) | omega) _)), Lib.hid hown3⟩
      case measure => simp [intOf]; omega
    · have hkm : k = m := by omega
      subst hkm
      have hO := hown.out
      rw [List.take_of_length_le (by rw [← HL.out]; exact Nat.le_refl _)] at hO
      have hjw : Lib.join ((xs.map (fun z => textS (wordW z))).map (·.data.toList)) [32] = textF wordW xs := by
        unfold textF
        congr 1
        rw [List.map_map]
        exact List.map_congr_left fun x _ => textS_list _
      have HJ : Hid (∀ x, Bel X x → Calls Tryd.prog 33 #[.slice (some ⟨b, 0, none⟩) k c3, .string ⟨#[32]⟩] x (Ret v x)) := Lib.hid (fun x hx => by
        have hl : (xs.map (fun z => textS (wordW z))).length = k := by rw [List.length_map, HL.out]
        have h9 := Tryd.strings_Join b 0 c3 (xs.map (fun z => textS (wordW z))) ⟨#[32]⟩ x (fun j s hj => by
          rw [Nat.zero_add, Below.cell hx (p := ⟨b, j, none⟩) hb3]
          have h8 := hO.cells (g := b) rfl j (.string s) (by rw [row_strs, List.getElem?_map, hj]; rfl)
          rw [addr_add, Nat.zero_add] at h8
          exact h8) (Nat.lt_of_lt_of_le hb3 hx.size) (by omega) (by omega) (by
            have h7 := HTL.out
            have h6 := HL.out
            rw [show (⟨#[32]⟩ : ByteArray).data.toList = [32] from rfl, hjw]; omega)
        rw [hl] at h9
        refine h9.mono fun e w' ⟨he, hw⟩ => ⟨?_, ext_ex hw⟩
        rw [he, ← H.out, show (⟨#[32]⟩ : ByteArray).data.toList = [32] from rfl, hjw]; rfl)
      clear hown hO hjw
      go_wp2_with (first | (go_at_call 33; refine Calls.mono (HJ.out _ ?_) ?_; (focus (repeat (first | with_reducible exact Bel.refl _ | with_reducible assumption | apply Bel.ext | apply Bel.alloc | apply Bel.drew | exact Bel.refl _))); rintro ee ww ⟨rfl, _, rfl⟩))
      go_ret
      exact Ret.mk rfl (by (repeat (first | with_reducible exact Bel.refl _ | with_reducible assumption | apply Bel.ext | apply Bel.alloc | apply Bel.drew | exact Bel.refl _ | refine Bel.set ?_ (by first | (simp; done) | (simp [go_sem]; done) | omega) _)) : Bel _ _)
end Go.Proofs.YtdneffnnpjgnbacDoor
