/- What the laws' helpers on []int64 do: comparing, marking, looking at marks. -/
import Derived.Test.YtpfemaonipcbgaaBase
import Derived.Test.YtpfemaonipcbgaaRow
import Derived.Test.YtpfemaonipcbgaaRows
namespace Go.Proofs.Ytpfemaonipcbgaa
open Go.RowKit

set_option maxHeartbeats 1000000 in
theorem eqInt64S_c (u v : Value) (xs ys : List Int) (w : World) (hu : Rd celI w u xs) (hv : Rd celI w v ys) :
    Calls Try.prog 14 #[u, v] w (Ret (.bool (decide (xs = ys))) w) := by
  refine hide_ret fun r H => ?_
  obtain ⟨a, n, c, rfl, hs⟩ := hu.sl
  obtain ⟨a', n', c', rfl, hs'⟩ := hv.sl
  have hcap := hs.le; have hmax := hs.cap; have hcap' := hs'.le; have hmax' := hs'.cap
  unfold maxLen at hmax hmax'
  by_cases hn : n = n'
  · subst hn
    have hb : ((n : Int) != n) = false := by simp
    go_enter Try.func14, Try.ntmps14
    go_wp2
    go_loopw [5] (fun i wr => ∃ k : Nat, k ≤ n ∧ i = .int .i64 k ∧ (∃ g, wr = ext w g) ∧ Hid (r = .bool (decide (xs.drop k = ys.drop k)))) (fun i _ => n - (intOf i).toNat)
    case atStart => exact ⟨0, Nat.zero_le _, rfl, ext_ex (Bel.refl _), Lib.hid (by rw [← H.out]; rfl)⟩
    case round =>
      obtain ⟨k, hk, rfl, ⟨g, rfl⟩, hr⟩ := hrel
      by_cases hlt : k < n
      · obtain ⟨b, off, rfl, hb1⟩ := hs.base hlt
        obtain ⟨b', off', rfl, hb2⟩ := hs'.base hlt
        obtain ⟨x, hx, hc⟩ := hs.at1 hlt
        obtain ⟨y, hy, hc'⟩ := hs'.at1 hlt
        by_cases hxy : x = y
        · have hne : (x != y) = false := by simp [hxy]
          have Hxy := Lib.hid hxy
          clear hxy
          go_wp2_with (fail)
          all_goals (try ((refine region_ext (by kernel_rfl) (by kernel_rfl) ?_; (repeat (go_big_quiet_step (fail))); refine wpQuiet_nil ?_; rintro _ ⟨_, rfl⟩); go_wp2_with (fail)))
          go_roundw
          case rel =>
            refine ⟨k + 1, by omega, by go_num, ext_ex (by (repeat (first | with_reducible exact Bel.refl _ | with_reducible assumption | apply Bel.ext | apply Bel.alloc | apply Bel.drew | exact Bel.refl _ | refine Bel.set ?_ (by first | (simp; done) | (simp [go_sem]; done) | omega) _)) : Bel _ _), Lib.hid ?_⟩
            rw [hr.out, drop_cons_of hx.out, drop_cons_of hy.out, Hxy.out]; simp
          case measure => simp [intOf]; omega
        · have hne : (x != y) = true := by simp [hxy]
          go_wp2_with (fail)
          all_goals (try ((refine region_ext (by kernel_rfl) (by kernel_rfl) ?_; (repeat (go_big_quiet_step (fail))); refine wpQuiet_nil ?_; rintro _ ⟨_, rfl⟩); go_wp2_with (fail)))
          go_ret
          refine Ret.mk ?_ (?_ : Bel _ _)
          · rw [hr.out, drop_cons_of hx.out, drop_cons_of hy.out]; simp [hxy]
          · (repeat (first | with_reducible exact Bel.refl _ | with_reducible assumption | apply Bel.ext | apply Bel.alloc | apply Bel.drew | exact Bel.refl _ | refine Bel.set ?_ (by first | (simp; done) | (simp [go_sem]; done) | omega) _))
      · go_wp2_with (fail)
        all_goals (try ((refine region_ext (by kernel_rfl) (by kernel_rfl) ?_; (repeat (go_big_quiet_step (fail))); refine wpQuiet_nil ?_; rintro _ ⟨_, rfl⟩); go_wp2_with (fail)))
        go_ret
        refine Ret.mk ?_ (?_ : Bel _ _)
        · rw [hr.out, List.drop_of_length_le (by have := hs.len; omega), List.drop_of_length_le (by have := hs'.len; omega)]; simp
        · (repeat (first | with_reducible exact Bel.refl _ | with_reducible assumption | apply Bel.ext | apply Bel.alloc | apply Bel.drew | exact Bel.refl _ | refine Bel.set ?_ (by first | (simp; done) | (simp [go_sem]; done) | omega) _))
  · have hb : ((n : Int) != n') = true := by simp; omega
    go_enter Try.func14, Try.ntmps14
    go_wp2
    go_ret
    refine Ret.mk ?_ (?_ : Bel _ _)
    · rw [← H.out]; simp
      intro e; exact hn (by rw [hs.len, hs'.len, e])
    · (repeat (first | with_reducible exact Bel.refl _ | with_reducible assumption | apply Bel.ext | apply Bel.alloc | apply Bel.drew | exact Bel.refl _ | refine Bel.set ?_ (by first | (simp; done) | (simp [go_sem]; done) | omega) _))
set_option maxHeartbeats 1000000 in
theorem markInt64S_c (v : Value) (e : TypeId) (n : Nat) (cs : List Value) (k : Int) (W w : World) (hb : Bel W w) (ho : w.ownsRow W.heap.size e 1 v n cs) (hn : n ≤ 1000000000) (h1 : 0 ≤ k) (h2 : k ≤ 1000000000000) :
    Calls Try.prog 17 #[v, .int .i64 k] w (RetMark v e 1 n k W w) := by
  obtain ⟨a, c, hv, hnc, hcm⟩ := own_len ho
  unfold maxLen at hcm
  generalize hR : RetMark v e 1 n k W w = R
  have HR := Lib.hid hR
  clear hR
  have hl : cs.length = n := by have := ho.1; omega
  have HL := Lib.hid hl
  clear hl
  have hv' := Lib.hid hv
  subst hv
  go_enter Try.func17, Try.ntmps17
  go_wp2
  go_loopw [1, 5] (fun x i wr => ∃ j : Nat, j ≤ n ∧ i = .int .i64 j ∧ x = .int .i64 (k + j) ∧ Bel W wr ∧ Hid (w.grownBy wr (Value.ownBlock (.slice a n c))) ∧ Hid (wr.ownsRow W.heap.size e 1 (.slice a n c) n (markCells k j ++ cs.drop j))) (fun _ i _ => n - (intOf i).toNat)
  case atStart => exact ⟨0, Nat.zero_le _, rfl, by go_num, hb, Lib.hid (grown_refl _ _), Lib.hid (by simpa [markCells] using ho)⟩
  case round =>
    obtain ⟨j, hj, rfl, rfl, hbel, hg, hown⟩ := hrel
    obtain ⟨g, rfl⟩ := ext_ex hbel
    by_cases hlt : j < n
    · obtain ⟨b, c', hv2, hb1, hb2, -, -, hc, hf⟩ := own_far hown.out (by omega)
      cases hv2
      have hc0 := hc j ((markCells k j ++ cs.drop j)[j]'(by simp [markCells_len, HL.out]; omega)) (by simp)
      have hf0 := hf j
      clear hc hf
      generalize (markCells k j ++ cs.drop j)[j]'_ = old at hc0
      go_wp2
      go_roundw
      case rel =>
        refine ⟨j + 1, by omega, by go_num, by go_num, Bel.set hbel hb1 _, Lib.hid (grown_trans hg.out (set_grown _ _ _ _)), Lib.hid ?_⟩
        rw [← set_mark k cs j (by rw [HL.out]; omega)]
        exact own_stored hown.out j _
      case measure => simp [intOf]; omega
    · go_wp2
      have hj' : j = n := by omega
      subst hj'
      rw [← HR.out]
      refine ⟨by simp, g, rfl, ?_, hg.out⟩
      have := hown.out
      rw [List.drop_of_length_le (by rw [HL.out]; exact Nat.le_refl _), List.append_nil] at this
      rw [Nat.mul_one]; exact this
set_option maxHeartbeats 1000000 in
theorem heldInt64S_c (v : Value) (B : Nat) (e : TypeId) (n : Nat) (k : Int) (w : World) (ho : w.ownsRow B e 1 v n (markCells k (n * 1))) (hn : n ≤ 1000000000) (h1 : 0 ≤ k) (h2 : k ≤ 1000000000000) :
    Calls Try.prog 18 #[v, .int .i64 k] w (Ret (.int .i64 (k + (n * 1 : Nat))) w) := by
  refine hide_ret fun r H => ?_
  have hrd : Rd celI w v ((List.range n).map fun (i : Nat) => k + (i : Int)) := rd_of_row (B := B) (e := e) (by
    simp only [List.length_map, List.length_range]
    rw [show celI.row ((List.range n).map fun (i : Nat) => k + (i : Int)) = markCells k (n * 1) from by
      rw [Nat.mul_one]; unfold Cel.row markCells; rw [List.flatMap_map]; exact List.map_eq_flatMap.symm]
    exact ho)
  obtain ⟨a, m, c, rfl, hs⟩ := hrd.sl
  have hm : m = n := by have := hs.len; simpa using this
  subst hm
  have hcap := hs.le; have hmax := hs.cap
  unfold maxLen at hmax
  go_enter Try.func18, Try.ntmps18
  go_wp2
  go_loopw [1, 5] (fun x i wr => ∃ j : Nat, j ≤ m ∧ i = .int .i64 j ∧ x = .int .i64 (k + j) ∧ ∃ g, wr = ext w g) (fun _ i _ => m - (intOf i).toNat)
  case atStart => exact ⟨0, Nat.zero_le _, rfl, by go_num, ext_ex (Bel.refl _)⟩
  case round =>
    obtain ⟨j, hj, rfl, rfl, g, rfl⟩ := hrel
    by_cases hlt : j < m
    · obtain ⟨b, off, rfl, hb1⟩ := hs.base hlt
      obtain ⟨x, hx, hc⟩ := hs.at1 hlt
      have hx' : x = k + j := by have := hx.out; simp [hlt] at this; exact this.symm
      subst hx'
      have hne : (k + (j : Int) != k + (j : Int)) = false := by simp
      go_wp2_with (fail)
      all_goals (try ((refine region_ext (by kernel_rfl) (by kernel_rfl) ?_; (repeat (go_big_quiet_step (fail))); refine wpQuiet_nil ?_; rintro _ ⟨_, rfl⟩); go_wp2_with (fail)))
      go_roundw
      case rel => exact ⟨j + 1, by omega, by go_num, by go_num, ext_ex (by (repeat (first | with_reducible exact Bel.refl _ | with_reducible assumption | apply Bel.ext | apply Bel.alloc | apply Bel.drew | exact Bel.refl _ | refine Bel.set ?_ (by first | (simp; done) | (simp [go_sem]; done) | omega) _)) : Bel _ _)⟩
      case measure => simp [intOf]; omega
    · go_wp2_with (fail)
      all_goals (try ((refine region_ext (by kernel_rfl) (by kernel_rfl) ?_; (repeat (go_big_quiet_step (fail))); refine wpQuiet_nil ?_; rintro _ ⟨_, rfl⟩); go_wp2_with (fail)))
      go_ret
      have hj' : j = m := by omega
      subst hj'
      refine Ret.mk ?_ (?_ : Bel _ _)
      · rw [← H.out]; simp
      · (repeat (first | with_reducible exact Bel.refl _ | with_reducible assumption | apply Bel.ext | apply Bel.alloc | apply Bel.drew | exact Bel.refl _ | refine Bel.set ?_ (by first | (simp; done) | (simp [go_sem]; done) | omega) _))
end Go.Proofs.Ytpfemaonipcbgaa
