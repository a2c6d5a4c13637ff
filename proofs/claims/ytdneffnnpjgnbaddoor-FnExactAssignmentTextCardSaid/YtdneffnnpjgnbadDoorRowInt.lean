/- What the laws' helpers on []int64 do: comparing, marking, looking at marks. -/
import Derived.Test.YtdneffnnpjgnbadDoorBase
import Derived.Test.YtdneffnnpjgnbadDoorRow
import Derived.Test.YtdneffnnpjgnbadDoorRows
namespace Go.Proofs.YtdneffnnpjgnbadDoor
open Go.RowKit

set_option maxHeartbeats 1000000 in
theorem eqInt64S_c (u v : Value) (xs ys : List Int) (w : World) (hu : Rd celI w u xs) (hv : Rd celI w v ys) :
    Calls Tryd.prog 7 #[u, v] w (Ret (.bool (decide (xs = ys))) w) := by
  refine hide_ret fun r H => ?_
  obtain ⟨a, n, c, rfl, hs⟩ := hu.sl
  obtain ⟨a', n', c', rfl, hs'⟩ := hv.sl
  have hcap := hs.le; have hmax := hs.cap; have hcap' := hs'.le; have hmax' := hs'.cap
  unfold maxLen at hmax hmax'
  by_cases hn : n = n'
  · subst hn
    have hb : ((n : Int) != n) = false := by simp
    go_enter Tryd.func7, Tryd.ntmps7
    go_wp2
    go_loopw [5] (fun i wr => ∃ k : Nat, k ≤ n ∧ i = .int .i64 k ∧ (∃ g, wr = ext w g) ∧ Hid (r = .bool (decide (xs.drop k = ys.drop k)))) (fun i _ => n - (intOf i).toNat)
    case atStart => exact ⟨0, Nat.zero_le _, rfl, ext_ex (Bel.refl _), Lib.hid (by rw [← H.out]; rfl)⟩
    case round =>
      obtain ⟨k, hk, rfl, ⟨g, rfl⟩, hr⟩ := hrel
      by_cases hlt : k < n
      · obtain ⟨b, off, rfl, hb1⟩ := hs.base hlt
        obtain ⟨b', off', rfl, hb2⟩ := hs'.base hlt
        obtain ⟨x, hx, hc⟩ := hs.at1 hlt
        obtain ⟨y, hy, hc'⟩ := hs'.at1 hlt
        by_cases hxy : x = y
        · have hne : (x != y) = false := by simp [hxy]
          have Hxy := Lib.hid hxy
          clear hxy
          go_wp2_with (fail)
          all_goals (try ((refine region_ext (by kernel_rfl) (by kernel_rfl) ?_; (repeat (go_big_quiet_step (fail))); refine wpQuiet_nil ?_; rintro _ ⟨_, rfl⟩); go_wp2_with (fail)))
          go_roundw
          case rel =>
            refine ⟨k + 1, by omega, by go_num, ext_ex (by (repeat (first | with_reducible exact Bel.refl _ | with_reducible assumption | apply Bel.ext | apply Bel.alloc | apply Bel.drew | exact Bel.refl _ | refine Bel.set ?_ (by first | (simp; done) | (simp [go_sem]; done) | omega) _)) : Bel _ _), Lib.hid ?_⟩
            rw [hr.out, drop_cons_of hx.out, drop_cons_of hy.out, Hxy.out]; simp
          case measure => simp [intOf]; omega
        · have hne : (x != y) = true := by simp [hxy]
          go_wp2_with (fail)
          all_goals (try ((refine region_ext (by kernel_rfl) (by kernel_rfl) ?_; (repeat (go_big_quiet_step (fail))); refine wpQuiet_nil ?_; rintro _ ⟨_, rfl⟩); go_wp2_with (fail)))
          go_ret
          refine Ret.mk ?_ (?_ : Bel _ _)
          · rw [hr.out, drop_cons_of hx.out, drop_cons_of hy.out]; simp [hxy]
          · (repeat (first | with_reducible exact Bel.refl _ | with_reducible assumption | apply Bel.ext | apply Bel.alloc | apply Bel.drew | exact Bel.refl _ | refine Bel.set ?_ (by first | (simp; done) | (simp [go_sem]; done) | omega) _))
      · go_wp2_with (fail)
        all_goals (try ((refine region_ext (by kernel_rfl) (by kernel_rfl) ?_; (repeat (go_big_quiet_step (fail))); refine wpQuiet_nil ?_; rintro _ ⟨_, rfl⟩); go_wp2_with (fail)))
        go_ret
        refine Ret.mk ?_ (?_ : Bel _ _)
        · rw [hr.out, List.drop_of_length_le (by have := hs.len; omega), List.drop_of_length_le (by have := hs'.len; omega)]; simp
        · (repeat (first | with_reducible exact Bel.refl _ | with_reducible assumption | apply Bel.ext | apply Bel.alloc | apply Bel.drew | exact Bel.refl _ | refine Bel.set ?_ (by first | (simp; done) | (simp [go_sem]; done) | omega) _))
  · have hb : ((n : Int) != n') = true := by simp; omega
    go_enter Tryd.func7, Tryd.ntmps7
    go_wp2
    go_ret
    refine Ret.mk ?_ (?_ : Bel _ _)
    · rw [← H.out]; simp
      intro e; exact hn (by rw [hs.len, hs'.len, e])
    · (repeat (first | with_reducible exact Bel.refl _ | with_reducible assumption | apply Bel.ext | apply Bel.alloc | apply Bel.drew | exact Bel.refl _ | refine Bel.set ?_ (by first | (simp; done) | (simp [go_sem]; done) | omega) _))
theorem appInt : AppF Tryd.prog 22 2 1 8 := appF_of (z := .int .i64 0) Tryd.underlying22 (by kernel_rfl) rfl
set_option maxHeartbeats 2000000 in
theorem toInt64S_c (u : Value) (xs : List Int) (w : World) (hu : Rd celI w u xs) (hn : xs.length ≤ 1000000000) :
    Calls Tryd.prog 5 #[u] w (RetRow 2 1 (fun v => v) xs.length (celI.row xs) w) := by
  generalize hR : RetRow _ _ _ _ _ w = R
  have HR := Lib.hid hR
  clear hR
  obtain ⟨a, n, c, rfl, hs⟩ := hu.sl
  have hcap := hs.le; have hmax := hs.cap
  unfold maxLen at hmax
  have hl := hs.len
  have HL := Lib.hid hl
  rw [← hl] at hn
  clear hl
  go_enter Tryd.func5, Tryd.ntmps5
  go_wp2_with (at_make; refine wpList_make_ext _ rfl _ _ 22 2 1 8 rfl appInt n rfl rfl (by omega) (by omega) ?_; intro g0 cs hcs hown)
  have HC := Lib.hid hcs
  clear hcs
  have HO := Lib.hid hown
  clear hown
  go_loopw [4] (fun i wr => ∃ j : Nat, j ≤ n ∧ i = .int .i64 j ∧ Bel w wr ∧ Hid (wr.ownsRow w.heap.size 2 1 (.slice (some ⟨w.heap.size, 0, none⟩) n n) n (celI.row (xs.take j) ++ cs.drop j))) (fun i _ => n - (intOf i).toNat)
  case atStart => exact ⟨0, Nat.zero_le _, rfl, (Bel.refl _).ext _, Lib.hid (by simpa [Cel.row] using HO.out)⟩
  case round =>
    obtain ⟨j, hj, rfl, hbel, hown⟩ := hrel
    obtain ⟨g, rfl⟩ := ext_ex hbel
    by_cases hlt : j < n
    · obtain ⟨b, off, rfl, hb1⟩ := hs.base hlt
      obtain ⟨x, hx, hc0⟩ := hs.at1 hlt
      obtain ⟨bb, cc, hv2, hbb1, hbb2, -, -, hc, hf⟩ := own_far hown.out (by omega)
      cases hv2
      have hA : (celI.row (xs.take j)).length = j := by rw [Cel.row_len, List.length_take, Nat.min_eq_left (by rw [← HL.out]; omega)]; simp [celI]
      have hgl : ∃ u, farCell w g w.heap.size j = some u := by
        have hq : j < (celI.row (xs.take j) ++ cs.drop j).length := by rw [List.length_append, hA, List.length_drop, HC.out]; omega
        exact ⟨_, hc _ _ (List.getElem?_eq_getElem hq)⟩
      obtain ⟨u0, hu0⟩ := hgl
      have hf0 := hf j
      clear hf hc
      have hbe := hbb1
      go_wp2
      go_roundw
      case rel =>
        refine ⟨j + 1, by omega, by go_num, by (repeat (first | with_reducible exact Bel.refl _ | with_reducible assumption | apply Bel.ext | apply Bel.alloc | apply Bel.drew | exact Bel.refl _ | refine Bel.set ?_ (by first | (simp; done) | (simp [go_sem]; done) | omega) _)), Lib.hid ?_⟩
        have ht : celI.row (xs.take (j + 1)) ++ cs.drop (j + 1) = (celI.row (xs.take j) ++ cs.drop j).set j (Value.int .i64 x) := by
          rw [take_snoc_of hx.out, Cel.row_append, Cel.row_one]
          rw [set_next (celI.row (xs.take j)) cs j (Value.int .i64 x) (by simp [hA]) (by rw [HC.out]; omega)]
          simp [celI]
        rw [ht]
        exact own_stored (own_bel hown.out (by (repeat (first | with_reducible exact Bel.refl _ | with_reducible assumption | apply Bel.ext | apply Bel.alloc | apply Bel.drew | exact Bel.refl _ | refine Bel.set ?_ (by first | (simp; done) | (simp [go_sem]; done) | omega) _)))) _ _
      case measure => simp [intOf]; omega
    · go_wp2
      have hj' : j = n := by omega
      subst hj'
      rw [← HR.out]
      refine RetRow.mk' rfl hbel ?_
      have := hown.out
      rw [List.drop_of_length_le (by rw [HC.out, Nat.mul_one]; exact Nat.le_refl _), List.append_nil, List.take_of_length_le (by rw [HL.out]; exact Nat.le_refl _)] at this
      rw [← HL.out]; exact this
end Go.Proofs.YtdneffnnpjgnbadDoor
