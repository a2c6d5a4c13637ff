/- The text of an assignment: what the program returns. -/
import Derived.Test.YtdneffnnpjgnbadDoorAText
namespace Go.Proofs.YtdneffnnpjgnbadDoor
open Go.RowKit

theorem appS : AppF Tryd.prog 28 9 1 16 := appF_of (z := .string ⟨#[]⟩) Tryd.underlying28 (by kernel_rfl) rfl
/-- a row of strings that the call owns, as its address -/
theorem own_strs {w : World} {B : Nat} {e : TypeId} {v : Value} {n : Nat} {cs : List Value} (h : w.ownsRow B e 1 v n cs) (h0 : 0 < n) :
    ∃ b c, v = .slice (some ⟨b, 0, none⟩) n c ∧ b < w.heap.size ∧ n ≤ c ∧ c ≤ maxLen := by
  have hl := h.lt
  rcases h.2 with ⟨rfl, hn⟩ | ⟨b, c, cur, rfl, hb, hg, h1, h2, _⟩
  · omega
  · exact ⟨b, c, rfl, (hl b rfl).2, h1, h2⟩
theorem row_strs (xs : List ByteArray) : celS.row xs = xs.map Value.string := by
  unfold Cel.row
  induction xs with
  | nil => rfl
  | cons a r ih => rw [List.flatMap_cons, ih]; rfl
def wordS (n : Int) : ByteArray := textS (word n)
theorem join_words (xs : List Int) : Lib.join ((xs.map wordS).map (·.data.toList)) [32] = textA xs := by
  unfold textA
  congr 1
  rw [List.map_map]
  exact List.map_congr_left fun x _ => textS_list _
set_option maxHeartbeats 4000000 in
theorem AssignmentText_c (u : Value) (xs : List Int) (w : World) (hu : Rd celI w u xs) (hn : xs.length ≤ 1048576) (hb : ∀ x ∈ xs, -9223372036854775808 ≤ x ∧ x ≤ 9223372036854775807) (ht : TabW w) :
    Calls Tryd.prog 6 #[u] w (Ret (.string (textS (textA xs))) w) := by
  refine hide_ret fun v H => ?_
  obtain ⟨a, m, c, rfl, hs⟩ := hu.sl
  have hcap := hs.le; have hmax := hs.cap
  unfold maxLen at hmax
  have HL := Lib.hid hs.len
  have HB := Lib.hid hb
  have HT := Lib.hid ht
  have HTL := Lib.hid (textA_le hb)
  rw [← HL.out] at hn
  clear hb hu ht
  go_enter Tryd.func6, Tryd.ntmps6
  go_wp2
  go_loopw [3, 9] (fun o i wr => ∃ (k b c : Nat), k ≤ m ∧ i = .int .i64 k ∧ o = .slice (some ⟨b, 0, none⟩) k c ∧ b < wr.heap.size ∧ k ≤ c ∧ c ≤ 9223372036854775807 ∧ Bel w wr ∧ Hid (wr.ownsRow w.heap.size 9 1 (.slice (some ⟨b, 0, none⟩) k c) k (celS.row ((xs.take k).map wordS)))) (fun _ i _ => m - (intOf i).toNat)
  case atStart => exact ⟨0, w.heap.size, 0, Nat.zero_le _, rfl, rfl, by simp, by simp, by omega, by (repeat (first | with_reducible exact Bel.refl _ | with_reducible assumption | apply Bel.ext | apply Bel.alloc | apply Bel.drew | exact Bel.refl _ | refine Bel.set ?_ (by first | (simp; done) | (simp [go_sem]; done) | omega) _)), Lib.hid (own_lit w w.heap.size 9 1 [] 0 rfl (Nat.le_refl _) (by unfold maxLen; omega))⟩
  case round =>
    obtain ⟨k, b, c3, hk, rfl, rfl, hb3, hc3, hc4, hbel, hown⟩ := hrel
    obtain ⟨g4, rfl⟩ := ext_ex hbel
    by_cases hlt : k < m
    · obtain ⟨bb, off, rfl, hb⟩ := hs.base hlt
      obtain ⟨x, hx, hc⟩ := hs.at1 hlt
      have hxb := HB.out x (List.mem_of_getElem? hx.out)
      have HD := Lib.hid (fun y (hy : Bel w y) => Decimal_c x hxb.1 hxb.2 y (HT.out.bel hy))
      have HW : Hid (∀ s, s = wordS x → celS.row ((xs.take (k + 1)).map wordS) = celS.row ((xs.take k).map wordS) ++ [.string s]) := Lib.hid (fun s h => by
        rw [take_snoc_of hx.out, List.map_append, Cel.row_append, List.map_cons, List.map_nil, Cel.row_one, h]; rfl)
      unfold wordS word at HW
      by_cases hx1 : x = -1
      · subst hx1
        rw [if_pos rfl] at HW
        have HN := Lib.hid (HW.out ⟨#[45]⟩ rfl)
        clear HW
        go_wp2_with (first | (at_builtin; refine wpList_append_new rfl (.tmp 15) (.tmp 16) 28 9 1 16 rfl appS (by decide) w _ _ _ 1 [.string ⟨#[45]⟩] rfl (by first | with_reducible rfl | (simp [go_sem]; done)) rfl (by intro u hu; simp at hu; first | (subst hu; rfl) | (rcases hu with rfl | rfl <;> rfl) | (rcases hu with rfl | rfl | rfl <;> rfl)) (own_bel hown.out ?_) ?_ (by omega) (by omega) ?_; (focus (repeat (first | with_reducible exact Bel.refl _ | with_reducible assumption | apply Bel.ext | apply Bel.alloc | apply Bel.drew | exact Bel.refl _))); (focus (repeat (first | with_reducible exact Bel.refl _ | with_reducible assumption | apply Bel.ext | apply Bel.alloc | apply Bel.drew | exact Bel.refl _))); intro v2 g2 hown2 hgr2))
        have hown3 := own_castY hown2 rfl HN.out.symm
        clear hown2 hgr2
        obtain ⟨b5, c5, rfl, hb5, hc5, hc6⟩ := own_strs hown3 (by omega)
        unfold maxLen at hc6
        go_roundw
        case rel => exact ⟨k + 1, b5, c5, by omega, by go_num, rfl, hb5, hc5, by omega, by (repeat (first | with_reducible exact Bel.refl _ | with_reducible assumption | apply Bel.ext | apply Bel.alloc | apply Bel.drew | exact Bel.refl _ | refine Bel.set ?_ (by first | (simp; done) | (simp [go_sem]; done) | omega) _)), Lib.hid hown3⟩
        case measure => simp [intOf]; omega
      · rw [if_neg hx1] at HW
        have hx2 : (x == -1) = false := by simpa using hx1
        have HN := Lib.hid (HW.out (textS (Lib.itoa x)) rfl)
        clear HW
        generalize textS (Lib.itoa x) = D at *
        go_wp2_with (first | (at_builtin; refine wpList_append_new rfl (.tmp 18) (.tmp 21) 28 9 1 16 rfl appS (by decide) w _ _ _ 1 [.string D] rfl (by first | with_reducible rfl | (simp [go_sem]; done)) rfl (by intro u hu; simp at hu; first | (subst hu; rfl) | (rcases hu with rfl | rfl <;> rfl) | (rcases hu with rfl | rfl | rfl <;> rfl)) (own_bel hown.out ?_) ?_ (by omega) (by omega) ?_; (focus (repeat (first | with_reducible exact Bel.refl _ | with_reducible assumption | apply Bel.ext | apply Bel.alloc | apply Bel.drew | exact Bel.refl _))); (focus (repeat (first | with_reducible exact Bel.refl _ | with_reducible assumption | apply Bel.ext | apply Bel.alloc | apply Bel.drew | exact Bel.refl _))); intro v2 g2 hown2 hgr2) | (go_at_call 9; refine Calls.mono (HD.out _ ?_) ?_; (focus (repeat (first | with_reducible exact Bel.refl _ | with_reducible assumption | apply Bel.ext | apply Bel.alloc | apply Bel.drew | exact Bel.refl _))); rintro ee ww ⟨rfl, _, rfl⟩))
        have hown3 := own_castY hown2 rfl HN.out.symm
        clear hown2 hgr2
        obtain ⟨b5, c5, rfl, hb5, hc5, hc6⟩ := own_strs hown3 (by omega)
        unfold maxLen at hc6
        go_roundw
        case rel => exact ⟨k + 1, b5, c5, by omega, by go_num, rfl, hb5, hc5, by omega, by (repeat (first | with_reducible exact Bel.refl _ | with_reducible assumption | apply Bel.ext | apply Bel.alloc | apply Bel.drew | exact Bel.refl _ | refine Bel.set ?_ (by first | (simp; done) | (simp [go_sem]; done) | omega) _)), Lib.hid hown3⟩
        case measure => simp [intOf]; omega
    · have hkm : k = m := by omega
      subst hkm
      have hO := hown.out
      rw [List.take_of_length_le (by rw [← HL.out]; exact Nat.le_refl _)] at hO
      have HJ : Hid (∀ x, Bel (ext w g4) x → Calls Tryd.prog 10 #[.slice (some ⟨b, 0, none⟩) k c3, .string ⟨#[32]⟩] x (Ret v x)) := Lib.hid (fun x hx => by
        have hl : (xs.map wordS).length = k := by rw [List.length_map, HL.out]
        have h9 := Tryd.strings_Join b 0 c3 (xs.map wordS) ⟨#[32]⟩ x (fun j s hj => by
          rw [Nat.zero_add, Below.cell hx (p := ⟨b, j, none⟩) hb3]
          have h8 := hO.cells (g := b) rfl j (.string s) (by rw [row_strs, List.getElem?_map, hj]; rfl)
          rw [addr_add, Nat.zero_add] at h8
          exact h8) (Nat.lt_of_lt_of_le hb3 hx.size) (by omega) (by omega) (by
            have h7 := HTL.out
            have h6 := HL.out
            rw [show (⟨#[32]⟩ : ByteArray).data.toList = [32] from rfl, join_words]; omega)
        rw [hl] at h9
        refine h9.mono fun e w' ⟨he, hw⟩ => ⟨?_, ext_ex hw⟩
        rw [he, ← H.out, show (⟨#[32]⟩ : ByteArray).data.toList = [32] from rfl, join_words]; rfl)
      clear hown hO
      go_wp2_with (first | (go_at_call 10; refine Calls.mono (HJ.out _ ?_) ?_; (focus (repeat (first | with_reducible exact Bel.refl _ | with_reducible assumption | apply Bel.ext | apply Bel.alloc | apply Bel.drew | exact Bel.refl _))); rintro ee ww ⟨rfl, _, rfl⟩))
      go_ret
      exact Ret.mk rfl (by (repeat (first | with_reducible exact Bel.refl _ | with_reducible assumption | apply Bel.ext | apply Bel.alloc | apply Bel.drew | exact Bel.refl _ | refine Bel.set ?_ (by first | (simp; done) | (simp [go_sem]; done) | omega) _)) : Bel _ _)
end Go.Proofs.YtdneffnnpjgnbadDoor
