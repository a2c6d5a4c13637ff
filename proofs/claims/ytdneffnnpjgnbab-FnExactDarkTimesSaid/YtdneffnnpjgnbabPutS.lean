/- Putting a number into a rising list: what the reference's l00Put returns (as XPut, for a seat of windows). -/
import Derived.Test.YtdneffnnpjgnbabMem
import Derived.Test.YtdneffnnpjgnbabBase
namespace Go.Proofs.Ytdneffnnpjgnbab
open Go.RowKit

def putL : List Int → Int → List Int
  | [], n => [n]
  | x :: r, n => if n ≤ x then (if n < x then n :: x :: r else x :: r) else x :: putL r n
theorem putL_lt {x n : Int} (r : List Int) (h : n < x) : putL (x :: r) n = n :: x :: r := by simp [putL, h, Int.le_of_lt h]
theorem putL_eq {x n : Int} (r : List Int) (h : n = x) : putL (x :: r) n = x :: r := by simp [putL, h]
theorem putL_gt {x n : Int} (r : List Int) (h : x < n) : putL (x :: r) n = x :: putL r n := by simp [putL, show ¬ n ≤ x by omega]
theorem putL_len (n : Int) : ∀ xs : List Int, (putL xs n).length ≤ xs.length + 1
  | [] => by simp [putL]
  | x :: r => by
    have := putL_len n r
    unfold putL
    split
    · split <;> simp
    · simp; omega
theorem appIntW : AppF Try.prog 45 2 1 8 := appF_of (z := .int .i64 0) Try.underlying45 (by kernel_rfl) rfl
set_option maxHeartbeats 4000000 in
theorem l00Put_c (u : Value) (xs : List Int) (y : Int) (hx : xs.length ≤ 1000000) (w : World) (hu : Rd celI w u xs) :
    Calls Try.prog 33 #[u, .int .i64 y] w (RetRow 2 1 (fun v => v) (putL xs y).length (celI.row (putL xs y)) w) := by
  generalize hR : RetRow _ _ _ _ _ w = R
  have HR := Lib.hid hR
  clear hR
  obtain ⟨a, m, c, rfl, hs⟩ := hu.sl
  have hcap := hs.le; have hmax := hs.cap
  unfold maxLen at hmax
  have HL := Lib.hid hs.len
  rw [← HL.out] at hx
  go_enter Try.func33, Try.ntmps33
  go_wp2
  go_loopw [5, 6, 7] (fun o d i wr => ∃ (k : Nat) (ys : List Int) (b : Bool), k ≤ m ∧ i = .int .i64 k ∧ d = .bool b ∧ Hid (putL xs y = if b then ys ++ xs.drop k else ys ++ putL (xs.drop k) y) ∧ ys.length ≤ k + 1 ∧ Hid (b = false → ys.length ≤ k) ∧ Hid (Mem w wr [⟨o, 2, 1, ys.length, celI.row ys⟩])) (fun _ _ i _ => m - (intOf i).toNat)
  case atStart =>
    refine ⟨0, [], false, Nat.zero_le _, rfl, rfl, Lib.hid rfl, Nat.zero_le _, Lib.hid (fun _ => Nat.zero_le _), Lib.hid ?_⟩
    have h9 := fun g => mem_lit (X := (ext w g)) (mem_bel (mem_nil w) (by (repeat (first | with_reducible exact Bel.refl _ | with_reducible assumption | apply Bel.ext | apply Bel.alloc | apply Bel.drew | exact Bel.refl _ | refine Bel.set ?_ (by first | (simp; done) | (simp [go_sem]; done) | omega) _)))) 2 1 [] 0 rfl (by unfold maxLen; omega)
    first | exact mem_lit (mem_nil w) 2 1 [] 0 rfl (by unfold maxLen; omega) | exact h9 _
  case round =>
    obtain ⟨k, ys, b, hk, rfl, rfl, hp, hy, hy2, hm⟩ := hrel
    obtain ⟨g, hg⟩ := ext_ex hm.out.bel
    subst hg
    have hM := hm.out
    clear hm
    by_cases hlt : k < m
    · obtain ⟨bb, off, rfl, hb⟩ := hs.base hlt
      obtain ⟨x, hx', hc⟩ := hs.at1 hlt
      have HD := Lib.hid (drop_cons_of hx'.out)
      rw [HD.out] at hp
      rcases b with _ | _
      · have hy3 := hy2.out rfl
        clear hy2
        rcases Int.lt_trichotomy x y with hxy | hxy | hxy
        · have HP := Lib.hid (show putL xs y = (ys ++ [x]) ++ putL (xs.drop (k + 1)) y from by rw [hp.out, putL_gt _ hxy]; simp)
          clear hp
          go_wp2_with (first | (at_builtin; refine wpList_append_mem rfl (.tmp 35) (.tmp 40) 45 2 1 8 rfl appIntW (by decide) w _ 0 _ _ _ rfl 1 [.int .i64 x] rfl (by first | with_reducible rfl | (simp [go_sem]; done)) rfl (by intro u hu; simp at hu; first | (subst hu; rfl) | (rcases hu with rfl | rfl <;> rfl) | (rcases hu with rfl | rfl | rfl <;> rfl)) (mem_bel hM ?_) (by omega) (by omega) ?_; (focus (repeat (first | with_reducible exact Bel.refl _ | with_reducible assumption | apply Bel.ext | apply Bel.alloc | apply Bel.drew | exact Bel.refl _))); intro v2 g2 hM; (try simp only [List.set_cons_zero, List.set_cons_succ] at hM)))
          go_roundw
          case rel =>
            refine ⟨k + 1, ys ++ [x], false, by omega, by go_num, rfl, HP, by simp; omega, Lib.hid (fun _ => by simp; omega), Lib.hid ?_⟩
            rw [Cel.row_append, Cel.row_one, List.length_append]; exact hM
          case measure => simp [intOf]; omega
        · subst hxy
          have HP := Lib.hid (show putL xs x = (ys ++ [x]) ++ xs.drop (k + 1) from by rw [hp.out, putL_eq _ rfl]; simp)
          clear hp
          go_wp2_with (first | (at_builtin; refine wpList_append_mem rfl (.tmp 35) (.tmp 40) 45 2 1 8 rfl appIntW (by decide) w _ 0 _ _ _ rfl 1 [.int .i64 x] rfl (by first | with_reducible rfl | (simp [go_sem]; done)) rfl (by intro u hu; simp at hu; first | (subst hu; rfl) | (rcases hu with rfl | rfl <;> rfl) | (rcases hu with rfl | rfl | rfl <;> rfl)) (mem_bel hM ?_) (by omega) (by omega) ?_; (focus (repeat (first | with_reducible exact Bel.refl _ | with_reducible assumption | apply Bel.ext | apply Bel.alloc | apply Bel.drew | exact Bel.refl _))); intro v2 g2 hM; (try simp only [List.set_cons_zero, List.set_cons_succ] at hM)))
          go_roundw
          case rel =>
            refine ⟨k + 1, ys ++ [x], true, by omega, by go_num, rfl, HP, by simp; omega, Lib.hid (fun h => by cases h), Lib.hid ?_⟩
            rw [Cel.row_append, Cel.row_one, List.length_append]; exact hM
          case measure => simp [intOf]; omega
        · have HP := Lib.hid (show putL xs y = (ys ++ [y] ++ [x]) ++ xs.drop (k + 1) from by rw [hp.out, putL_lt _ hxy]; simp)
          have hxe : ¬ x < y := by omega
          have hxe2 : y ≤ x := by omega
          clear hp
          go_wp2_with (first | (at_builtin; refine wpList_append_mem rfl (.tmp 31) (.tmp 33) 45 2 1 8 rfl appIntW (by decide) w _ 0 _ _ _ rfl 1 [.int .i64 y] rfl (by first | with_reducible rfl | (simp [go_sem]; done)) rfl (by intro u hu; simp at hu; first | (subst hu; rfl) | (rcases hu with rfl | rfl <;> rfl) | (rcases hu with rfl | rfl | rfl <;> rfl)) (mem_bel hM ?_) (by omega) (by omega) ?_; (focus (repeat (first | with_reducible exact Bel.refl _ | with_reducible assumption | apply Bel.ext | apply Bel.alloc | apply Bel.drew | exact Bel.refl _))); intro v2 g2 hM; (try simp only [List.set_cons_zero, List.set_cons_succ] at hM)) | (at_builtin; refine wpList_append_mem rfl (.tmp 35) (.tmp 40) 45 2 1 8 rfl appIntW (by decide) w _ 0 _ _ _ rfl 1 [.int .i64 x] rfl (by first | with_reducible rfl | (simp [go_sem]; done)) rfl (by intro u hu; simp at hu; first | (subst hu; rfl) | (rcases hu with rfl | rfl <;> rfl) | (rcases hu with rfl | rfl | rfl <;> rfl)) (mem_bel hM ?_) (by omega) (by omega) ?_; (focus (repeat (first | with_reducible exact Bel.refl _ | with_reducible assumption | apply Bel.ext | apply Bel.alloc | apply Bel.drew | exact Bel.refl _))); intro v2 g2 hM; (try simp only [List.set_cons_zero, List.set_cons_succ] at hM)))
          go_roundw
          case rel =>
            refine ⟨k + 1, ys ++ [y] ++ [x], true, by omega, by go_num, rfl, HP, by simp; omega, Lib.hid (fun h => by cases h), Lib.hid ?_⟩
            rw [Cel.row_append, Cel.row_one, Cel.row_append, Cel.row_one, List.length_append, List.length_append]; exact hM
          case measure => simp [intOf]; omega
      · have HP := Lib.hid (show putL xs y = (ys ++ [x]) ++ xs.drop (k + 1) from by rw [hp.out]; simp)
        clear hp
        go_wp2_with (first | (at_builtin; refine wpList_append_mem rfl (.tmp 35) (.tmp 40) 45 2 1 8 rfl appIntW (by decide) w _ 0 _ _ _ rfl 1 [.int .i64 x] rfl (by first | with_reducible rfl | (simp [go_sem]; done)) rfl (by intro u hu; simp at hu; first | (subst hu; rfl) | (rcases hu with rfl | rfl <;> rfl) | (rcases hu with rfl | rfl | rfl <;> rfl)) (mem_bel hM ?_) (by omega) (by omega) ?_; (focus (repeat (first | with_reducible exact Bel.refl _ | with_reducible assumption | apply Bel.ext | apply Bel.alloc | apply Bel.drew | exact Bel.refl _))); intro v2 g2 hM; (try simp only [List.set_cons_zero, List.set_cons_succ] at hM)))
        go_roundw
        case rel =>
          refine ⟨k + 1, ys ++ [x], true, by omega, by go_num, rfl, HP, by simp; omega, Lib.hid (fun h => by cases h), Lib.hid ?_⟩
          rw [Cel.row_append, Cel.row_one, List.length_append]; exact hM
        case measure => simp [intOf]; omega
    · have hkm : k = m := by omega
      have hd : xs.drop k = [] := List.drop_of_length_le (by rw [← HL.out]; omega)
      have hp2 := hp.out
      rw [hd] at hp2
      clear hp hd
      rcases b with _ | _
      · have HP := Lib.hid (show putL xs y = ys ++ [y] from by rw [hp2]; rfl)
        clear hp2
        go_wp2_with (first | (at_builtin; refine wpList_append_mem rfl (.tmp 44) (.tmp 46) 45 2 1 8 rfl appIntW (by decide) w _ 0 _ _ _ rfl 1 [.int .i64 y] rfl (by first | with_reducible rfl | (simp [go_sem]; done)) rfl (by intro u hu; simp at hu; first | (subst hu; rfl) | (rcases hu with rfl | rfl <;> rfl) | (rcases hu with rfl | rfl | rfl <;> rfl)) (mem_bel hM ?_) (by omega) (by omega) ?_; (focus (repeat (first | with_reducible exact Bel.refl _ | with_reducible assumption | apply Bel.ext | apply Bel.alloc | apply Bel.drew | exact Bel.refl _))); intro v2 g2 hM; (try simp only [List.set_cons_zero, List.set_cons_succ] at hM)))
        rw [← HR.out, HP.out]
        refine RetRow.mk' rfl (by (repeat (first | with_reducible exact Bel.refl _ | with_reducible assumption | apply Bel.ext | apply Bel.alloc | apply Bel.drew | exact Bel.refl _ | refine Bel.set ?_ (by first | (simp; done) | (simp [go_sem]; done) | omega) _)) : Bel _ _) ?_
        rw [Cel.row_append, Cel.row_one, List.length_append]; exact hM.own 0 _ rfl
      · have HP := Lib.hid (show putL xs y = ys from by rw [hp2]; simp)
        clear hp2
        go_wp2
        rw [← HR.out, HP.out]
        exact RetRow.mk' rfl (by (repeat (first | with_reducible exact Bel.refl _ | with_reducible assumption | apply Bel.ext | apply Bel.alloc | apply Bel.drew | exact Bel.refl _ | refine Bel.set ?_ (by first | (simp; done) | (simp [go_sem]; done) | omega) _)) : Bel _ _) (hM.own 0 _ rfl)
end Go.Proofs.Ytdneffnnpjgnbab
