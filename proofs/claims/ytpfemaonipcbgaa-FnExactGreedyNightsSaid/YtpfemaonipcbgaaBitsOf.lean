/- The indices that are wanted; the numbers of bits that are set, or are not. -/
import Derived.Test.YtpfemaonipcbgaaEach
namespace Go.Proofs.Ytpfemaonipcbgaa
open Go.RowKit

/-- the indices below n that are wanted -/
def idxL (p : Nat → Bool) (n : Nat) : List Int := ((List.range n).filter p).map fun (i : Nat) => (i : Int)
theorem idxL_len (p : Nat → Bool) (n : Nat) : (idxL p n).length ≤ n := by
  unfold idxL; rw [List.length_map]; exact Nat.le_trans (List.length_filter_le _ _) (by simp)
theorem idxL_pos {p : Nat → Bool} {n : Nat} (h : p n = true) : idxL p (n + 1) = idxL p n ++ [(n : Int)] := by simp [idxL, List.range_succ, h]
theorem idxL_neg {p : Nat → Bool} {n : Nat} (h : p n = false) : idxL p (n + 1) = idxL p n := by simp [idxL, List.range_succ, h]
set_option maxHeartbeats 4000000 in
theorem indicesWhere_c (p : Nat → Bool) (g : Nat) (lb : Array Value) (eg : ∀ args w, (callFunc g args).run Try.prog w = .ok (.enter g args) w) (n : Nat) (hn : n ≤ 1000000000) (w : World)
    (hp : ∀ (i : Nat) W, i < n → Bel w W → Calls Try.prog g (#[.int .i64 (i : Int)] ++ lb) W (Ret (.bool (p i)) W)) :
    Calls Try.prog 52 #[.int .i64 n, .func (.func g) #[] lb] w (RetRow 2 1 (fun v => v) (idxL p n).length (celI.row (idxL p n)) w) := by
  generalize hR : RetRow _ _ _ _ _ w = R
  have HR := Lib.hid hR
  clear hR
  have HP := Lib.hid hp
  clear hp
  go_enter Try.func52, Try.ntmps52
  go_wp2
  go_loopw [5, 9] (fun o i wr => ∃ k : Nat, k ≤ n ∧ i = .int .i64 k ∧ Bel w wr ∧ Hid (wr.ownsRow w.heap.size 2 1 o (idxL p k).length (celI.row (idxL p k)))) (fun _ i _ => n - (intOf i).toNat)
  case atStart => exact ⟨0, by omega, by go_num, by (repeat (first | with_reducible exact Bel.refl _ | with_reducible assumption | apply Bel.ext | apply Bel.alloc | apply Bel.drew | exact Bel.refl _ | refine Bel.set ?_ (by first | (simp; done) | (simp [go_sem]; done) | omega) _)), Lib.hid (by refine own_empty _ _ _ _ ?_; exact (by (repeat (first | with_reducible exact Bel.refl _ | with_reducible assumption | apply Bel.ext | apply Bel.alloc | apply Bel.drew | exact Bel.refl _ | refine Bel.set ?_ (by first | (simp; done) | (simp [go_sem]; done) | omega) _)) : Bel w _).size)⟩
  case round =>
    obtain ⟨k, hk, rfl, hbel, hown⟩ := hrel
    obtain ⟨g', rfl⟩ := ext_ex hbel
    by_cases hlt : k < n
    · have hfl := idxL_len p k
      rcases hq : p k with _ | _
      · have HF := Lib.hid (idxL_neg hq)
        have hcall : ∀ W, Bel w W → Calls Try.prog g (#[.int .i64 (k : Int)] ++ lb) W (Ret (.bool false) W) := fun W hW => hq ▸ HP.out k W hlt hW
        have HC := Lib.hid hcall
        clear hcall hq
        generalize idxL p k = ys at *
        go_wp2_with (go_at_fn g; refine Calls.mono (HC.out _ ?_) ?_; (focus (repeat (first | with_reducible exact Bel.refl _ | with_reducible assumption | apply Bel.ext | apply Bel.alloc | apply Bel.drew | exact Bel.refl _ | refine Bel.set ?_ (by first | (simp; done) | (simp [go_sem]; done) | omega) _))); rintro ee ww ⟨rfl, _, rfl⟩)
        go_roundw
        case rel =>
          refine ⟨k + 1, by omega, by go_num, by (repeat (first | with_reducible exact Bel.refl _ | with_reducible assumption | apply Bel.ext | apply Bel.alloc | apply Bel.drew | exact Bel.refl _ | refine Bel.set ?_ (by first | (simp; done) | (simp [go_sem]; done) | omega) _)), Lib.hid ?_⟩
          rw [HF.out]; exact own_bel hown.out (by (repeat (first | with_reducible exact Bel.refl _ | with_reducible assumption | apply Bel.ext | apply Bel.alloc | apply Bel.drew | exact Bel.refl _ | refine Bel.set ?_ (by first | (simp; done) | (simp [go_sem]; done) | omega) _)))
        case measure => simp [intOf]; omega
      · have HF := Lib.hid (idxL_pos hq)
        have hcall : ∀ W, Bel w W → Calls Try.prog g (#[.int .i64 (k : Int)] ++ lb) W (Ret (.bool true) W) := fun W hW => hq ▸ HP.out k W hlt hW
        have HC := Lib.hid hcall
        clear hcall hq
        generalize idxL p k = ys at *
        go_wp2_with (first | (at_builtin; refine wpList_append_new rfl (.tmp 15) (.tmp 17) 28 2 1 8 rfl appIntW (by decide) w _ _ _ 1 [.int .i64 (k : Int)] rfl (by first | with_reducible rfl | (simp [go_sem]; done)) rfl (by intro u hu; simp at hu; first | (subst hu; rfl) | (rcases hu with rfl | rfl <;> rfl) | (rcases hu with rfl | rfl | rfl <;> rfl)) (own_bel hown.out ?_) ?_ (by omega) (by omega) ?_; (focus (repeat (first | with_reducible exact Bel.refl _ | with_reducible assumption | apply Bel.ext | apply Bel.alloc | apply Bel.drew | exact Bel.refl _))); (focus (repeat (first | with_reducible exact Bel.refl _ | with_reducible assumption | apply Bel.ext | apply Bel.alloc | apply Bel.drew | exact Bel.refl _))); intro v2 g2 hown2 hgr2) | (go_at_fn g; refine Calls.mono (HC.out _ ?_) ?_; (focus (repeat (first | with_reducible exact Bel.refl _ | with_reducible assumption | apply Bel.ext | apply Bel.alloc | apply Bel.drew | exact Bel.refl _ | refine Bel.set ?_ (by first | (simp; done) | (simp [go_sem]; done) | omega) _))); rintro ee ww ⟨rfl, _, rfl⟩))
        go_roundw
        case rel =>
          refine ⟨k + 1, by omega, by go_num, by (repeat (first | with_reducible exact Bel.refl _ | with_reducible assumption | apply Bel.ext | apply Bel.alloc | apply Bel.drew | exact Bel.refl _ | refine Bel.set ?_ (by first | (simp; done) | (simp [go_sem]; done) | omega) _)), Lib.hid ?_⟩
          rw [HF.out, Cel.row_append, Cel.row_one, List.length_append]; exact hown2
        case measure => simp [intOf]; omega
    · have hk' : k = n := by omega
      subst hk'
      go_wp2
      rw [← HR.out]
      exact RetRow.mk' rfl (by (repeat (first | with_reducible exact Bel.refl _ | with_reducible assumption | apply Bel.ext | apply Bel.alloc | apply Bel.drew | exact Bel.refl _ | refine Bel.set ?_ (by first | (simp; done) | (simp [go_sem]; done) | omega) _)) : Bel _ _) hown.out
theorem bit_of (S i : Nat) (hS : S < 2 ^ 64) (hi : i < 64) : (bits .and .u64 ((S : Int) / 2 ^ i) 1 == 1) = S.testBit i := by
  have e : ((S : Int) / 2 ^ i) = ((S / 2 ^ i : Nat) : Int) := by rw [Int.natCast_ediv, Int.natCast_pow]; rfl
  have h1 : S / 2 ^ i < 2 ^ 64 := Nat.lt_of_le_of_lt (Nat.div_le_self _ _) hS
  rw [e, show (1 : Int) = ((1 : Nat) : Int) from rfl, bits_and_u h1 (by decide), Nat.and_one_is_mod, Nat.testBit_eq_decide_div_mod_eq]
  rw [Bool.eq_iff_iff]
  simp
  omega
set_option maxHeartbeats 1000000 in
theorem bitsOf1_c (S i : Nat) (b : Bool) (hS : S < 2 ^ 64) (hi : i < 50) (B : Nat) (w : World) (h0 : w.cell? ⟨B, 0, none⟩ = some (.int .u64 (S : Int))) (h1 : w.cell? ⟨B + 1, 0, none⟩ = some (.bool b)) (hB : B + 1 < w.heap.size) :
    Calls Try.prog 63 (#[.int .i64 (i : Int)] ++ #[.pointer (some ⟨B, 0, none⟩), .pointer (some ⟨B + 1, 0, none⟩)]) w (Ret (.bool (S.testBit i == b)) w) := by
  refine hide_ret fun v H => ?_
  show Calls Try.prog 63 #[.int .i64 (i : Int), .pointer (some ⟨B, 0, none⟩), .pointer (some ⟨B + 1, 0, none⟩)] w _
  have HT := Lib.hid (bit_of S i hS (by omega))
  have hB0 : B < w.heap.size := by omega
  clear hS
  go_enter Try.func63, Try.ntmps63
  go_wp2_with fail
  go_region_held3 (fun q => q.cell? ⟨B, 0, none⟩ = some (.int .u64 (S : Int)) ∧ q.cell? ⟨B + 1, 0, none⟩ = some (.bool b)) (simp [go_sem, *]) (fail)
  all_goals go_wp2
  go_ret
  refine Ret.mk ?_ (?_ : Bel _ _)
  · show Value.bool ((bits .and .u64 ((S : Int) / 2 ^ i) 1 == 1) == b) = v
    rw [HT.out]; exact H.out
  · (repeat (first | with_reducible exact Bel.refl _ | with_reducible assumption | apply Bel.ext | apply Bel.alloc | apply Bel.drew | exact Bel.refl _ | refine Bel.set ?_ (by first | (simp; done) | (simp [go_sem]; done) | omega) _))
set_option maxHeartbeats 1000000 in
theorem bitsOf_c (S n : Nat) (b : Bool) (hS : S < 2 ^ 64) (hn : n ≤ 50) (w : World) :
    Calls Try.prog 44 #[.int .u64 (S : Int), .int .i64 (n : Int), .bool b] w (RetRow 2 1 (fun v => v) (idxL (fun i => S.testBit i == b) n).length (celI.row (idxL (fun i => S.testBit i == b) n)) w) := by
  generalize hR : RetRow _ _ _ _ _ w = R
  have HR := Lib.hid hR
  clear hR
  have eg : ∀ args w, (callFunc 63 args).run Try.prog w = .ok (.enter 63 args) w := enters_of Try.func63 (by kernel_rfl) rfl
  have hcon := indicesWhere_c (fun i => S.testBit i == b) 63 #[.pointer (some ⟨w.heap.size, 0, none⟩), .pointer (some ⟨w.heap.size + 1, 0, none⟩)] eg n (by omega) ((w.alloc (.cells #[.int .u64 (S : Int)] 65)).alloc (.cells #[.bool b] 4))
    (fun i W hi hW => bitsOf1_c S i b hS (by omega) w.heap.size W
      (by rw [Below.cell hW (p := ⟨w.heap.size, 0, none⟩) (by simp; omega)]; simp [go_sem])
      (by rw [Below.cell hW (p := ⟨w.heap.size + 1, 0, none⟩) (by simp)]; simp [go_sem])
      (by have := hW.size; simp at this; omega))
  have HC := Lib.hid hcon
  clear hcon hS
  go_enter Try.func44, Try.ntmps44
  go_wp2_with (go_at_call 52; refine HC.out.mono ?_; rintro ee ww ⟨v0, g0, rfl, rfl, hown⟩)
  rw [← HR.out]
  exact RetRow.mk' rfl (by (repeat (first | with_reducible exact Bel.refl _ | with_reducible assumption | apply Bel.ext | apply Bel.alloc | apply Bel.drew | exact Bel.refl _ | refine Bel.set ?_ (by first | (simp; done) | (simp [go_sem]; done) | omega) _)) : Bel _ _) (own_mono hown (by simp; omega))
end Go.Proofs.Ytpfemaonipcbgaa
