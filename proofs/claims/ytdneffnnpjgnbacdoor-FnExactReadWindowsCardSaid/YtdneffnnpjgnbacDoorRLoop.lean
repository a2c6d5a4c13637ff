/- The program's 'ReadWindows' hands back what 'readW' says. -/
import Derived.Test.YtdneffnnpjgnbacDoorRCut
namespace Go.Proofs.YtdneffnnpjgnbacDoor
open Go.RowKit

theorem textS_inj {a b : List UInt8} (h : textS a = textS b) : a = b := by
  have := congrArg (fun z : ByteArray => z.data.toList) h
  simpa only [textS_data] using this
theorem str_ne {l m : List UInt8} : ((textS l).toList == (textS m).toList) = decide (l = m) := by
  rw [textS_toList, textS_toList, Bool.eq_iff_iff]; simp
def impW (l : List UInt8) : List (Int × Int) × Bool := match implR l with
  | none => ([], false)
  | some xs => (xs, true)
theorem impW_same (l : List UInt8) : impW l = readW l := by
  unfold impW readW
  rw [read_same]
  cases specR l <;> rfl
/-- what is handed back where the loop has ended -/
def endW (l : List UInt8) : Option (List (Int × Int)) → List (Int × Int) × Bool
  | none => ([], false)
  | some xs => if windowsB xs = true ∧ textF wordW xs = l then (xs, true) else ([], false)
theorem endW_none (l : List UInt8) : endW l none = ([], false) := rfl
theorem endW_some (l : List UInt8) (xs : List (Int × Int)) : endW l (some xs) = if windowsB xs = true ∧ textF wordW xs = l then (xs, true) else ([], false) := rfl
theorem impW_end (l : List UInt8) : impW l = endW l (readI (l.length + 1) l []) := by
  unfold impW implR
  rcases readI (l.length + 1) l [] with _ | ys
  · rfl
  · by_cases hc : windowsB ys = true ∧ textF wordW ys = l
    · rw [endW_some, if_pos hc]; simp only [if_pos hc]
    · rw [endW_some, if_neg hc]; simp only [if_neg hc]
theorem own_some {w : World} {B size : Nat} {e : TypeId} {v : Value} {n : Nat} {cs : List Value} (h : w.ownsRow B e size v n cs) (h0 : 0 < n) :
    ∃ b c, v = .slice (some ⟨b, 0, none⟩) n c ∧ b < w.heap.size ∧ n ≤ c ∧ c ≤ 9223372036854775807 := by
  have hl := h.lt
  rcases h.2 with ⟨rfl, hn⟩ | ⟨b, c, cur, rfl, hb, hg, h1, h2, _⟩
  · omega
  · exact ⟨b, c, rfl, (hl b rfl).2, h1, by unfold maxLen at h2; omega⟩
theorem emptyS {l : List UInt8} (h : l ≠ []) : (textS l).toList.isEmpty = false := by
  rw [textS_toList]
  cases l with
  | nil => exact absurd rfl h
  | cons a r => rfl
theorem ne_len {l : List UInt8} (h : l ≠ []) : 0 < l.length := by
  cases l with
  | nil => exact absurd rfl h
  | cons a r => simp
theorem readI_nil {f : Nat} {xs : List (Int × Int)} (h : 0 < f) : readI f [] xs = some xs := by
  obtain ⟨k, rfl⟩ : ∃ k, f = k + 1 := ⟨f - 1, by omega⟩
  rw [readI, if_pos rfl]
theorem readI_no {f : Nat} {l : List UInt8} {xs : List (Int × Int)} (h0 : l ≠ []) (h : ¬ ((rangeR (Lib.cut l [32]).1).2.2 = true ∧ xs.length ≠ 30)) : readI (f + 1) l xs = none := by
  rw [readI, if_neg h0, if_neg h]
theorem readI_yes {f : Nat} {l : List UInt8} {xs : List (Int × Int)} (h0 : l ≠ []) (h : (rangeR (Lib.cut l [32]).1).2.2 = true ∧ xs.length ≠ 30) :
    readI (f + 1) l xs = readI f (Lib.cut l [32]).2.1 (xs ++ [((rangeR (Lib.cut l [32]).1).1, (rangeR (Lib.cut l [32]).1).2.1)]) := by
  rw [readI, if_neg h0, if_pos h]
def sizeS : Value → Nat
  | .string q => q.size
  | _ => 0
theorem sizeS_text (l : List UInt8) : sizeS (.string (textS l)) = l.length := textS_size l
set_option maxRecDepth 100000 in
set_option maxHeartbeats 8000000 in
theorem ReadWindowsI_c (l : List UInt8) (hl : l.length ≤ 1048576) (w : World) (ht : TabW w) (he : ErrV w) (hc : CutW w) :
    Calls Tryd.prog 16 #[.string (textS l)] w (RetRow 54 2 (fun v => .tuple #[v, .bool (impW l).2]) (impW l).1.length (cel2.row (impW l).1) w) := by
  rw [impW_end]
  generalize hR : RetRow _ _ _ _ _ w = R
  have HR := Lib.hid hR
  clear hR
  have HT := Lib.hid ht
  have HE := Lib.hid he
  have HC := Lib.hid hc
  clear ht he hc
  go_enter Tryd.func16, Tryd.ntmps16
  go_wp2
  go_loopw [4, 5] (fun o s wr => ∃ (r : List UInt8) (b c n f : Nat) (xs : List (Int × Int)), s = .string (textS r) ∧ r.length ≤ l.length ∧ r.length < f ∧ Hid (n = xs.length) ∧ n ≤ 30 ∧ o = .slice (some ⟨b, 0, none⟩) n c ∧ b < wr.heap.size ∧ n ≤ c ∧ c ≤ 9223372036854775807 ∧ Bel w wr ∧ Hid (wr.ownsRow w.heap.size 54 2 (.slice (some ⟨b, 0, none⟩) n c) n (cel2.row xs)) ∧ Hid (readI (l.length + 1) l [] = readI f r xs)) (fun _ s _ => sizeS s)
  case atStart =>
    exact ⟨l, w.heap.size, 0, 0, l.length + 1, [], rfl, Nat.le_refl _, Nat.lt_succ_self _, Lib.hid rfl, by omega, rfl, by simp, by omega, by omega, by (repeat (first | with_reducible exact Bel.refl _ | with_reducible assumption | apply Bel.ext | apply Bel.alloc | apply Bel.drew | exact Bel.refl _ | refine Bel.set ?_ (by first | (simp; done) | (simp [go_sem]; done) | omega) _)), Lib.hid (own_empty _ _ _ _ (Nat.le_refl _)), Lib.hid rfl⟩
  case round =>
    obtain ⟨r, b, c, n, f, xs, rfl, hrl, hf, hn, h30, rfl, hb3, hc3, hc4, hbel, hown, hv⟩ := hrel
    obtain ⟨g, rfl⟩ := ext_ex hbel
    have HO := Lib.hid (own_castY hown.out hn.out rfl)
    have HD := Lib.hid (rd_of_row HO.out)
    by_cases hr : r = []
    · subst hr
      have hV := hv.out
      rw [readI_nil hf] at hV
      rw [hV, endW_some] at HR
      clear hv hV hf hrl
      have HV := Lib.hid (fun x (hx : Bel (ext w g) x) => ValidWindows_c _ xs x (HD.out.bel hx))
      have HW := Lib.hid (fun x (hx : Bel (ext w g) x) (hw : Bel w x) => WindowsText_c _ xs x (HD.out.bel hx) (HT.out.bel hw))
      rw [show textS [] = ⟨#[]⟩ from rfl]
      unfold textW at HW
      rcases h1 : windowsB xs with _ | _
      · rw [h1] at HV HR
        simp only [Bool.not_true, Bool.not_false, if_true, if_false, Bool.false_eq_true, false_and] at HR
        clear h1 HW
        go_wp2_with (first | (go_at_call 32; refine Calls.mono (HV.out _ ?_) ?_; (focus (repeat (first | with_reducible exact Bel.refl _ | with_reducible assumption | apply Bel.ext | apply Bel.alloc | apply Bel.drew | exact Bel.refl _))); rintro ee ww ⟨rfl, _, rfl⟩))
        rw [← HR.out]
        exact RetRow.mk' rfl (by (repeat (first | with_reducible exact Bel.refl _ | with_reducible assumption | apply Bel.ext | apply Bel.alloc | apply Bel.drew | exact Bel.refl _ | refine Bel.set ?_ (by first | (simp; done) | (simp [go_sem]; done) | omega) _)) : Bel _ _) (World.ownsRow_nil _ _ _ _)
      · rw [h1] at HV HR HW
        simp only [Bool.not_true, Bool.not_false, if_true, if_false, Bool.false_eq_true, true_and] at HR HW
        clear h1
        have hq := str_ne (l := textF wordW xs) (m := l)
        generalize textS (textF wordW xs) = D at *
        generalize textS l = L at *
        by_cases hi : textF wordW xs = l
        · rw [if_pos hi] at HR
          rw [decide_eq_true hi] at hq
          clear hi
          go_wp2_with (first | (go_at_call 32; refine Calls.mono (HV.out _ ?_) ?_; (focus (repeat (first | with_reducible exact Bel.refl _ | with_reducible assumption | apply Bel.ext | apply Bel.alloc | apply Bel.drew | exact Bel.refl _))); rintro ee ww ⟨rfl, _, rfl⟩) | (go_at_call 13; refine Calls.mono (HW.out _ ?_ ?_) ?_; (focus (repeat (first | with_reducible exact Bel.refl _ | with_reducible assumption | apply Bel.ext | apply Bel.alloc | apply Bel.drew | exact Bel.refl _))); (focus (repeat (first | with_reducible exact Bel.refl _ | with_reducible assumption | apply Bel.ext | apply Bel.alloc | apply Bel.drew | exact Bel.refl _))); rintro ee ww ⟨rfl, _, rfl⟩))
          rw [← HR.out]
          exact RetRow.mk' rfl (by (repeat (first | with_reducible exact Bel.refl _ | with_reducible assumption | apply Bel.ext | apply Bel.alloc | apply Bel.drew | exact Bel.refl _ | refine Bel.set ?_ (by first | (simp; done) | (simp [go_sem]; done) | omega) _)) : Bel _ _) (own_bel HO.out (by (repeat (first | with_reducible exact Bel.refl _ | with_reducible assumption | apply Bel.ext | apply Bel.alloc | apply Bel.drew | exact Bel.refl _ | refine Bel.set ?_ (by first | (simp; done) | (simp [go_sem]; done) | omega) _))))
        · rw [if_neg hi] at HR
          rw [decide_eq_false hi] at hq
          clear hi
          go_wp2_with (first | (go_at_call 32; refine Calls.mono (HV.out _ ?_) ?_; (focus (repeat (first | with_reducible exact Bel.refl _ | with_reducible assumption | apply Bel.ext | apply Bel.alloc | apply Bel.drew | exact Bel.refl _))); rintro ee ww ⟨rfl, _, rfl⟩) | (go_at_call 13; refine Calls.mono (HW.out _ ?_ ?_) ?_; (focus (repeat (first | with_reducible exact Bel.refl _ | with_reducible assumption | apply Bel.ext | apply Bel.alloc | apply Bel.drew | exact Bel.refl _))); (focus (repeat (first | with_reducible exact Bel.refl _ | with_reducible assumption | apply Bel.ext | apply Bel.alloc | apply Bel.drew | exact Bel.refl _))); rintro ee ww ⟨rfl, _, rfl⟩))
          rw [← HR.out]
          exact RetRow.mk' rfl (by (repeat (first | with_reducible exact Bel.refl _ | with_reducible assumption | apply Bel.ext | apply Bel.alloc | apply Bel.drew | exact Bel.refl _ | refine Bel.set ?_ (by first | (simp; done) | (simp [go_sem]; done) | omega) _)) : Bel _ _) (World.ownsRow_nil _ _ _ _)
    · have hem := emptyS hr
      have hz := textS_size r
      have C1 := Lib.hid (fun x (hx : Bel w x) => Cut_c (textS r) ⟨#[32]⟩ (by rw [hz]; omega) x (HC.out.bel hx))
      simp only [textS_data] at C1
      have z1 := textS_size (Lib.cut r [32]).1
      have l1 := cut_le1 r [32]
      have l2 := cut_short r hr 32
      have R1 := Lib.hid (fun x (hx : Bel w x) => readRange_c (textS (Lib.cut r [32]).1) (by rw [z1]; omega) x (HT.out.bel hx) (HE.out.bel hx) (HC.out.bel hx))
      simp only [textS_data] at R1
      obtain ⟨f', rfl⟩ : ∃ k, f = k + 1 := ⟨f - 1, by omega⟩
      have hV := hv.out
      by_cases hyes : (rangeR (Lib.cut r [32]).1).2.2 = true ∧ xs.length ≠ 30
      · rw [readI_yes hr hyes] at hV
        rw [hyes.1] at R1
        have hn30 : n < 30 := by have := hyes.2; have := hn.out; omega
        clear hyes hv
        have hS := sizeS_text r
        have hSn := sizeS_text (Lib.cut r [32]).2.1
        generalize (rangeR (Lib.cut r [32]).1).1 = x at *
        generalize (rangeR (Lib.cut r [32]).1).2.1 = y at *
        generalize (Lib.cut r [32]).2.2 = c5 at *
        generalize (Lib.cut r [32]).1 = q1 at *
        generalize (Lib.cut r [32]).2.1 = q2 at *
        have HV := Lib.hid hV
        have hS2 := Lib.hid hS
        have hSn2 := Lib.hid hSn
        clear hV z1 hS hSn hz
        generalize hTr : textS r = Tr at *
        generalize hT1 : textS q1 = T1 at *
        generalize hT2 : textS q2 = T2 at *
        have HT2 := Lib.hid hT2
        clear hTr hT1 hT2
        have hcmp : ((n : Int) == 30) = false := by simp; omega
        go_wp2_with (first | (at_builtin; refine wpList_append_new rfl (.tmp 35) (.tmp 39) 31 54 2 16 rfl appWindow (by decide) w _ _ _ 1 [.int .i64 x, .int .i64 y] rfl (by first | with_reducible rfl | (simp [go_sem]; done)) rfl (by intro u hu; simp at hu; first | (subst hu; rfl) | (rcases hu with rfl | rfl <;> rfl) | (rcases hu with rfl | rfl | rfl <;> rfl)) (own_bel hown.out ?_) ?_ (by omega) (by omega) ?_; (focus (repeat (first | with_reducible exact Bel.refl _ | with_reducible assumption | apply Bel.ext | apply Bel.alloc | apply Bel.drew | exact Bel.refl _))); (focus (repeat (first | with_reducible exact Bel.refl _ | with_reducible assumption | apply Bel.ext | apply Bel.alloc | apply Bel.drew | exact Bel.refl _))); intro v2 g2 hown2 hgr2) | (go_at_call 37; refine Calls.mono (C1.out _ ?_) ?_; (focus (repeat (first | with_reducible exact Bel.refl _ | with_reducible assumption | apply Bel.ext | apply Bel.alloc | apply Bel.drew | exact Bel.refl _))); rintro ee ww ⟨rfl, _, rfl⟩) | (go_at_call 38; refine Calls.mono (R1.out _ ?_) ?_; (focus (repeat (first | with_reducible exact Bel.refl _ | with_reducible assumption | apply Bel.ext | apply Bel.alloc | apply Bel.drew | exact Bel.refl _))); rintro ee ww ⟨rfl, _, rfl⟩))
        have hl4 : (xs ++ [(x, y)]).length = xs.length + 1 := by simp
        have hown3 := own_castY hown2 rfl (by rw [Cel.row_append, Cel.row_one]; rfl : _ = cel2.row (xs ++ [(x, y)]))
        obtain ⟨b5, c6, rfl, hb5, hc5, hc6⟩ := own_some hown3 (by omega)
        go_wp2_with fail
        go_roundw
        case rel => exact ⟨q2, b5, c6, n + 1, f', xs ++ [(x, y)], by rw [HT2.out], by omega, by omega, Lib.hid (by rw [hl4, hn.out]), by omega, rfl, hb5, hc5, hc6, by (repeat (first | with_reducible exact Bel.refl _ | with_reducible assumption | apply Bel.ext | apply Bel.alloc | apply Bel.drew | exact Bel.refl _ | refine Bel.set ?_ (by first | (simp; done) | (simp [go_sem]; done) | omega) _)), Lib.hid hown3, HV⟩
        case measure => rw [hS2.out, hSn2.out]; omega
      · rw [readI_no hr hyes] at hV
        rw [hV, endW_none] at HR
        clear hv hV l1 l2 hf hrl
        have hno : (rangeR (Lib.cut r [32]).1).2.2 = false ∨ n = 30 := by
          rcases hb : (rangeR (Lib.cut r [32]).1).2.2 with _ | _
          · exact .inl rfl
          · exact .inr (by
              by_cases he : xs.length = 30
              · rw [hn.out, he]
              · exact absurd ⟨hb, he⟩ hyes)
        clear hyes z1 hz
        generalize (rangeR (Lib.cut r [32]).1).1 = x at *
        generalize (rangeR (Lib.cut r [32]).1).2.1 = y at *
        generalize (rangeR (Lib.cut r [32]).1).2.2 = z at *
        generalize (Lib.cut r [32]).2.2 = c5 at *
        generalize textS (Lib.cut r [32]).1 = T1 at *
        generalize textS (Lib.cut r [32]).2.1 = T2 at *
        generalize textS r = Tr at *
        rcases z with _ | _
        · clear hno
          go_wp2_with (first | (go_at_call 37; refine Calls.mono (C1.out _ ?_) ?_; (focus (repeat (first | with_reducible exact Bel.refl _ | with_reducible assumption | apply Bel.ext | apply Bel.alloc | apply Bel.drew | exact Bel.refl _))); rintro ee ww ⟨rfl, _, rfl⟩) | (go_at_call 38; refine Calls.mono (R1.out _ ?_) ?_; (focus (repeat (first | with_reducible exact Bel.refl _ | with_reducible assumption | apply Bel.ext | apply Bel.alloc | apply Bel.drew | exact Bel.refl _))); rintro ee ww ⟨rfl, _, rfl⟩))
          rw [← HR.out]
          exact RetRow.mk' rfl (by (repeat (first | with_reducible exact Bel.refl _ | with_reducible assumption | apply Bel.ext | apply Bel.alloc | apply Bel.drew | exact Bel.refl _ | refine Bel.set ?_ (by first | (simp; done) | (simp [go_sem]; done) | omega) _)) : Bel _ _) (World.ownsRow_nil _ _ _ _)
        · obtain rfl : n = 30 := by rcases hno with h | h; cases h; exact h
          go_wp2_with (first | (go_at_call 37; refine Calls.mono (C1.out _ ?_) ?_; (focus (repeat (first | with_reducible exact Bel.refl _ | with_reducible assumption | apply Bel.ext | apply Bel.alloc | apply Bel.drew | exact Bel.refl _))); rintro ee ww ⟨rfl, _, rfl⟩) | (go_at_call 38; refine Calls.mono (R1.out _ ?_) ?_; (focus (repeat (first | with_reducible exact Bel.refl _ | with_reducible assumption | apply Bel.ext | apply Bel.alloc | apply Bel.drew | exact Bel.refl _))); rintro ee ww ⟨rfl, _, rfl⟩))
          rw [← HR.out]
          exact RetRow.mk' rfl (by (repeat (first | with_reducible exact Bel.refl _ | with_reducible assumption | apply Bel.ext | apply Bel.alloc | apply Bel.drew | exact Bel.refl _ | refine Bel.set ?_ (by first | (simp; done) | (simp [go_sem]; done) | omega) _)) : Bel _ _) (World.ownsRow_nil _ _ _ _)
end Go.Proofs.YtdneffnnpjgnbacDoor
