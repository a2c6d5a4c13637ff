/- Bins that are shown in a window, or in no window: what the program returns. -/
import Derived.Test.YtpfemaonipcbgaaBitsOf
namespace Go.Proofs.Ytpfemaonipcbgaa
open Go.RowKit

def binsI (e p n : Int) (xs : List (Int × Int)) (b : Bool) : List Int × Int := if codeB e p n xs ≠ 0 then ([], codeB e p n xs) else (idxL (fun i => allF e p n xs i == b) n.toNat, 0)
theorem idxL_congr {p q : Nat → Bool} {n : Nat} (h : ∀ i, i < n → p i = q i) : idxL p n = idxL q n := by
  unfold idxL; congr 1
  exact List.filter_congr fun i hi => h i (List.mem_range.1 hi)
theorem binsI_len (e p n : Int) (xs : List (Int × Int)) (b : Bool) : (binsI e p n xs b).1.length ≤ 50 := by
  unfold binsI
  split
  · simp
  · rename_i h
    obtain ⟨_, _, h3, h4, _⟩ := codeB_ok (Classical.not_not.1 h)
    have := idxL_len (fun i => allF e p n xs i == b) n.toNat
    simp only; omega
theorem idxL_mask (f : Nat → Bool) (n : Nat) (b : Bool) : idxL (fun i => (maskOf f n).testBit i == b) n = idxL (fun i => f i == b) n :=
  idxL_congr fun i hi => by rw [maskOf_test]; simp [hi]
theorem rd_lit2 {W : World} {e : TypeId} {x y : Int} {q : Nat} (hq : W.heap.size = q) : Rd cel2 (W.alloc (.cells #[.int .i64 x, .int .i64 y] e)) (.slice (some ⟨q, 0, none⟩) 1 1) [(x, y)] := by
  subst hq
  exact rd_of_row (C := cel2) (xs := [(x, y)]) (own_lit W W.heap.size e 2 [.int .i64 x, .int .i64 y] 1 rfl (Nat.le_refl _) (by unfold maxLen; omega))
set_option maxHeartbeats 1000000 in
theorem MissingBins_c (e p n : Int) (u : Value) (xs : List (Int × Int)) (w : World) (hu : Rd cel2 w u xs) :
    Calls Try.prog 23 #[.agg #[.int .i64 e, .int .i64 p], u, .int .i64 n] w (RetRow 2 1 (fun v => .tuple #[v, .int .i64 (binsI e p n xs false).2]) (binsI e p n xs false).1.length (celI.row (binsI e p n xs false).1) w) := by
  generalize hR : RetRow _ _ _ _ _ w = R
  have HR := Lib.hid hR
  clear hR
  have HS := Lib.hid (fun w hu => shownEach_c e p n u xs w hu)
  have hok := @codeB_ok e p n xs
  unfold binsI at HR
  unfold eachI at HS
  generalize codeB e p n xs = c at *
  by_cases hc : c = 0
  · subst hc
    obtain ⟨_, _, n1, n2, _⟩ := hok rfl
    clear hok
    simp only [ne_eq, not_true_eq_false, if_false] at HR HS
    obtain ⟨N, rfl⟩ : ∃ N : Nat, n = (N : Int) := ⟨n.toNat, by omega⟩
    simp only [Int.toNat_natCast] at HR HS
    have HB := Lib.hid (fun w => bitsOf_c (maskOf (allF e p N xs) N) N false (maskOf_lt64 _ (by omega)) (by omega) w)
    rw [idxL_mask] at HB
    generalize idxL (fun i => allF e p N xs i == false) N = ys at *
    generalize maskOf (allF e p N xs) N = S at *
    go_enter Try.func23, Try.ntmps23
    go_wp2_with (first | (go_at_call 43; refine Calls.mono (HS.out _ (hu.bel ?_)) ?_; (focus (repeat (first | with_reducible exact Bel.refl _ | with_reducible assumption | apply Bel.ext | apply Bel.alloc | apply Bel.drew | exact Bel.refl _))); rintro ee ww ⟨v0, g0, rfl, rfl, hown⟩) | (go_at_call 44; refine Calls.mono (HB.out _) ?_; rintro ee ww ⟨v1, g1, rfl, rfl, hown1⟩))
    rw [← HR.out]
    exact RetRow.mk' rfl (by (repeat (first | with_reducible exact Bel.refl _ | with_reducible assumption | apply Bel.ext | apply Bel.alloc | apply Bel.drew | exact Bel.refl _ | refine Bel.set ?_ (by first | (simp; done) | (simp [go_sem]; done) | omega) _)) : Bel _ _) (own_mono hown1 (bel_size (by (repeat (first | with_reducible exact Bel.refl _ | with_reducible assumption | apply Bel.ext | apply Bel.alloc | apply Bel.drew | exact Bel.refl _ | refine Bel.set ?_ (by first | (simp; done) | (simp [go_sem]; done) | omega) _)) : Bel w _)))
  · clear hok
    have hc' : (c != 0) = true := by simp [hc]
    simp only [ne_eq, hc, not_false_eq_true, if_true] at HR HS
    clear hc
    go_enter Try.func23, Try.ntmps23
    go_wp2_with (first | (go_at_call 43; refine Calls.mono (HS.out _ (hu.bel ?_)) ?_; (focus (repeat (first | with_reducible exact Bel.refl _ | with_reducible assumption | apply Bel.ext | apply Bel.alloc | apply Bel.drew | exact Bel.refl _))); rintro ee ww ⟨v0, g0, rfl, rfl, hown⟩))
    rw [← HR.out]
    exact RetRow.mk' rfl (by (repeat (first | with_reducible exact Bel.refl _ | with_reducible assumption | apply Bel.ext | apply Bel.alloc | apply Bel.drew | exact Bel.refl _ | refine Bel.set ?_ (by first | (simp; done) | (simp [go_sem]; done) | omega) _)) : Bel _ _) (World.ownsRow_nil _ _ _ _)
set_option maxHeartbeats 1000000 in
theorem ShownBins_c (e p x y n : Int) (w : World) :
    Calls Try.prog 21 #[.agg #[.int .i64 e, .int .i64 p], .agg #[.int .i64 x, .int .i64 y], .int .i64 n] w (RetRow 2 1 (fun v => .tuple #[v, .int .i64 (binsI e p n [(x, y)] true).2]) (binsI e p n [(x, y)] true).1.length (celI.row (binsI e p n [(x, y)] true).1) w) := by
  generalize hR : RetRow _ _ _ _ _ w = R
  have HR := Lib.hid hR
  clear hR
  have HS := Lib.hid (fun u w hu => shownEach_c e p n u [(x, y)] w hu)
  have hok := @codeB_ok e p n [(x, y)]
  unfold binsI at HR
  unfold eachI at HS
  generalize codeB e p n [(x, y)] = c at *
  by_cases hc : c = 0
  · subst hc
    obtain ⟨_, _, n1, n2, _⟩ := hok rfl
    clear hok
    simp only [ne_eq, not_true_eq_false, if_false] at HR HS
    obtain ⟨N, rfl⟩ : ∃ N : Nat, n = (N : Int) := ⟨n.toNat, by omega⟩
    simp only [Int.toNat_natCast] at HR HS
    have HB := Lib.hid (fun w => bitsOf_c (maskOf (allF e p N [(x, y)]) N) N true (maskOf_lt64 _ (by omega)) (by omega) w)
    rw [idxL_mask] at HB
    generalize idxL (fun i => allF e p N [(x, y)] i == true) N = ys at *
    generalize maskOf (allF e p N [(x, y)]) N = S at *
    go_enter Try.func21, Try.ntmps21
    go_wp2_with (first | (go_at_call 43; refine Calls.mono (HS.out _ _ (rd_lit2 ?_)) ?_; (focus (first | (simp; done) | rfl)); rintro ee ww ⟨v0, g0, rfl, rfl, hown⟩) | (go_at_call 44; refine Calls.mono (HB.out _) ?_; rintro ee ww ⟨v1, g1, rfl, rfl, hown1⟩))
    rw [← HR.out]
    exact RetRow.mk' rfl (by (repeat (first | with_reducible exact Bel.refl _ | with_reducible assumption | apply Bel.ext | apply Bel.alloc | apply Bel.drew | exact Bel.refl _ | refine Bel.set ?_ (by first | (simp; done) | (simp [go_sem]; done) | omega) _)) : Bel _ _) (own_mono hown1 (bel_size (by (repeat (first | with_reducible exact Bel.refl _ | with_reducible assumption | apply Bel.ext | apply Bel.alloc | apply Bel.drew | exact Bel.refl _ | refine Bel.set ?_ (by first | (simp; done) | (simp [go_sem]; done) | omega) _)) : Bel w _)))
  · clear hok
    have hc' : (c != 0) = true := by simp [hc]
    simp only [ne_eq, hc, not_false_eq_true, if_true] at HR HS
    clear hc
    go_enter Try.func21, Try.ntmps21
    go_wp2_with (first | (go_at_call 43; refine Calls.mono (HS.out _ _ (rd_lit2 ?_)) ?_; (focus (first | (simp; done) | rfl)); rintro ee ww ⟨v0, g0, rfl, rfl, hown⟩))
    rw [← HR.out]
    exact RetRow.mk' rfl (by (repeat (first | with_reducible exact Bel.refl _ | with_reducible assumption | apply Bel.ext | apply Bel.alloc | apply Bel.drew | exact Bel.refl _ | refine Bel.set ?_ (by first | (simp; done) | (simp [go_sem]; done) | omega) _)) : Bel _ _) (World.ownsRow_nil _ _ _ _)
end Go.Proofs.Ytpfemaonipcbgaa
