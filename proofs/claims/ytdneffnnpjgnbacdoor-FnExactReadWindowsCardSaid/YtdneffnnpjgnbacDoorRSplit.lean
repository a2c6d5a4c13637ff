/- A text parted at a byte: the reference's 'l01Split'. -/
import Derived.Test.YtdneffnnpjgnbacDoorRNum4
namespace Go.Proofs.YtdneffnnpjgnbacDoor
open Go.RowKit

def spl (b : UInt8) : List UInt8 → List UInt8 → List ByteArray
  | [], cur => [textS cur]
  | c :: r, cur => if c = b then textS cur :: spl b r [] else spl b r (cur ++ [c])
theorem str_cut (s : ByteArray) (f k : Nat) : s.extract f k = textS ((s.data.toList.take k).drop f) := by
  have := textS_extract s.data.toList f k
  rwa [← text_of] at this
theorem take_next {l : List UInt8} {c : UInt8} {k f : Nat} (h : l[k]? = some c) (hf : f ≤ k) : (l.take (k + 1)).drop f = (l.take k).drop f ++ [c] := by
  have hk := (List.getElem?_eq_some_iff.1 h).1
  rw [List.take_add_one, h, List.drop_append_of_le_length (by rw [List.length_take]; omega)]; rfl
set_option maxHeartbeats 4000000 in
theorem l01Split_c (s : ByteArray) (b : UInt8) (hs : s.size ≤ 1048576) (w : World) :
    Calls Tryd.prog 35 #[.string s, .int .u8 (b.toNat : Int)] w (RetRow 9 1 (fun v => v) (spl b s.data.toList []).length (celS.row (spl b s.data.toList [])) w) := by
  generalize hR : RetRow _ _ _ _ _ w = R
  have HR := Lib.hid hR
  clear hR
  have hln : s.data.toList.length = s.size := by simp
  have HLn := Lib.hid hln
  clear hln
  go_enter Tryd.func35, Tryd.ntmps35
  go_wp2
  go_loopw [5, 6, 7] (fun o fr i wr => ∃ (k f bk c : Nat) (O : List ByteArray), k ≤ s.size ∧ f ≤ k ∧ O.length ≤ k ∧ i = .int .i64 k ∧ fr = .int .i64 f ∧ o = .slice (some ⟨bk, 0, none⟩) O.length c ∧ bk < wr.heap.size ∧ O.length ≤ c ∧ c ≤ 9223372036854775807 ∧ Bel w wr ∧ Hid (wr.ownsRow w.heap.size 9 1 (.slice (some ⟨bk, 0, none⟩) O.length c) O.length (celS.row O)) ∧ Hid (spl b s.data.toList [] = O ++ spl b (s.data.toList.drop k) ((s.data.toList.take k).drop f))) (fun _ _ i _ => s.size - (intOf i).toNat)
  case atStart => exact ⟨0, 0, w.heap.size, 0, [], Nat.zero_le _, Nat.le_refl _, Nat.le_refl _, rfl, rfl, rfl, by simp, by simp, by omega, by (repeat (first | with_reducible exact Bel.refl _ | with_reducible assumption | apply Bel.ext | apply Bel.alloc | apply Bel.drew | exact Bel.refl _ | refine Bel.set ?_ (by first | (simp; done) | (simp [go_sem]; done) | omega) _)), Lib.hid (own_lit w w.heap.size 9 1 [] 0 rfl (Nat.le_refl _) (by unfold maxLen; omega)), Lib.hid rfl⟩
  case round =>
    obtain ⟨k, f, bk, c3, O, hk, hf, hO, rfl, rfl, rfl, hb3, hc3, hc4, hbel, hown, hv⟩ := hrel
    obtain ⟨g4, rfl⟩ := ext_ex hbel
    by_cases hlt : k < s.size
    · have hD := hv.out
      have hg : s.data.toList[k]? = some s[k] := by rw [List.getElem?_eq_getElem (by simpa using hlt)]; rfl
      rw [sdrop s k hlt] at hD
      by_cases hc : s[k] = b
      · have hcmp : ((s[k].toNat : Int) == (b.toNat : Int)) = true := by rw [hc]; simp
        rw [spl, if_pos hc, ← str_cut] at hD
        have HD : Hid (spl b s.data.toList [] = (O ++ [s.extract f k]) ++ spl b (s.data.toList.drop (k + 1)) ((s.data.toList.take (k + 1)).drop (k + 1))) := Lib.hid (by
          have ez : (s.data.toList.take (k + 1)).drop (k + 1) = [] := List.drop_of_length_le (by rw [List.length_take]; omega)
          rw [hD, List.append_assoc, ez]; rfl)
        have HN : Hid (celS.row (O ++ [s.extract f k]) = celS.row O ++ [.string (s.extract f k)]) := Lib.hid (by rw [Cel.row_append, Cel.row_one]; rfl)
        clear hD hv hc hg
        go_wp2_with (first | (at_builtin; refine wpList_append_new rfl (.tmp 20) (.tmp 25) 57 9 1 16 rfl appS (by decide) w _ _ _ 1 [.string (s.extract f k)] rfl (by first | with_reducible rfl | (simp [go_sem]; done)) rfl (by intro u hu; simp at hu; first | (subst hu; rfl) | (rcases hu with rfl | rfl <;> rfl) | (rcases hu with rfl | rfl | rfl <;> rfl)) (own_bel hown.out ?_) ?_ (by omega) (by omega) ?_; (focus (repeat (first | with_reducible exact Bel.refl _ | with_reducible assumption | apply Bel.ext | apply Bel.alloc | apply Bel.drew | exact Bel.refl _))); (focus (repeat (first | with_reducible exact Bel.refl _ | with_reducible assumption | apply Bel.ext | apply Bel.alloc | apply Bel.drew | exact Bel.refl _))); intro v2 g2 hown2 hgr2))
        have hown3 := own_castY hown2 (by rw [List.length_append]; rfl : _ = (O ++ [s.extract f k]).length) HN.out.symm
        clear hown2 hgr2
        have hl4 : (O ++ [s.extract f k]).length = O.length + 1 := by simp
        obtain ⟨b5, c5, rfl, hb5, hc5, hc6⟩ := own_strs hown3 (by omega)
        unfold maxLen at hc6
        go_wp2_with fail
        go_roundw
        case rel => exact ⟨k + 1, k + 1, b5, c5, _, by omega, by omega, by omega, by go_num, by go_num, rfl, hb5, hc5, by omega, by (repeat (first | with_reducible exact Bel.refl _ | with_reducible assumption | apply Bel.ext | apply Bel.alloc | apply Bel.drew | exact Bel.refl _ | refine Bel.set ?_ (by first | (simp; done) | (simp [go_sem]; done) | omega) _)), Lib.hid hown3, HD⟩
        case measure => simp [intOf]; omega
      · have hcmp : ((s[k].toNat : Int) == (b.toNat : Int)) = false := by
          simp only [beq_eq_false_iff_ne, ne_eq]
          intro e
          exact hc (UInt8.toNat_inj.1 (by omega))
        rw [spl, if_neg hc, ← take_next hg hf] at hD
        have HD := Lib.hid hD
        clear hD hv hc hg
        go_wp2
        go_roundw
        case rel => exact ⟨k + 1, f, bk, c3, O, by omega, by omega, by omega, by go_num, rfl, rfl, hb3, hc3, hc4, by (repeat (first | with_reducible exact Bel.refl _ | with_reducible assumption | apply Bel.ext | apply Bel.alloc | apply Bel.drew | exact Bel.refl _ | refine Bel.set ?_ (by first | (simp; done) | (simp [go_sem]; done) | omega) _)), Lib.hid (own_bel hown.out (by (repeat (first | with_reducible exact Bel.refl _ | with_reducible assumption | apply Bel.ext | apply Bel.alloc | apply Bel.drew | exact Bel.refl _ | refine Bel.set ?_ (by first | (simp; done) | (simp [go_sem]; done) | omega) _)))), HD⟩
        case measure => simp [intOf]; omega
    · have hks : k = s.size := by omega
      have hD := hv.out
      have ez : s.data.toList.drop s.size = [] := List.drop_of_length_le (by rw [HLn.out]; exact Nat.le_refl _)
      rw [hks, ez, spl, ← str_cut] at hD
      have HD := Lib.hid hD
      have HN : Hid (celS.row (O ++ [s.extract f s.size]) = celS.row O ++ [.string (s.extract f s.size)]) := Lib.hid (by rw [Cel.row_append, Cel.row_one]; rfl)
      clear hD hv
      subst hks
      go_wp2_with (first | (at_builtin; refine wpList_append_new rfl (.tmp 29) (.tmp 33) 57 9 1 16 rfl appS (by decide) w _ _ _ 1 [.string (s.extract f s.size)] rfl (by first | with_reducible rfl | (simp [go_sem]; done)) rfl (by intro u hu; simp at hu; first | (subst hu; rfl) | (rcases hu with rfl | rfl <;> rfl) | (rcases hu with rfl | rfl | rfl <;> rfl)) (own_bel hown.out ?_) ?_ (by omega) (by omega) ?_; (focus (repeat (first | with_reducible exact Bel.refl _ | with_reducible assumption | apply Bel.ext | apply Bel.alloc | apply Bel.drew | exact Bel.refl _))); (focus (repeat (first | with_reducible exact Bel.refl _ | with_reducible assumption | apply Bel.ext | apply Bel.alloc | apply Bel.drew | exact Bel.refl _))); intro v2 g2 hown2 hgr2))
      have hown3 := own_castY hown2 (by rw [List.length_append]; rfl : _ = (O ++ [s.extract f s.size]).length) HN.out.symm
      go_wp2_with fail
      rw [← HR.out, HD.out]
      refine RetRow.mk' rfl (by (repeat (first | with_reducible exact Bel.refl _ | with_reducible assumption | apply Bel.ext | apply Bel.alloc | apply Bel.drew | exact Bel.refl _ | refine Bel.set ?_ (by first | (simp; done) | (simp [go_sem]; done) | omega) _))) hown3
end Go.Proofs.YtdneffnnpjgnbacDoor
