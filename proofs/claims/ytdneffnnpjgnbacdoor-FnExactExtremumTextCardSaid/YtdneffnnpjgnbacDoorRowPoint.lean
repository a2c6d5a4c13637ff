/- What the laws' helpers on slices of Point do: copying, comparing, marking, looking at marks. -/
import Derived.Test.YtdneffnnpjgnbacDoorBase
import Derived.Test.YtdneffnnpjgnbacDoorRow
import Derived.Test.YtdneffnnpjgnbacDoorRows
namespace Go.Proofs.YtdneffnnpjgnbacDoor
open Go.RowKit

set_option maxHeartbeats 400000 in
theorem toPoint_c (x y : Int) (w : World) : Calls Tryd.prog 43 #[.agg #[.int .i64 x, .int .i64 y]] w (Ret (.agg #[.int .i64 x, .int .i64 y]) w) := by
  refine hide_ret fun v H => ?_
  go_enter Tryd.func43, Tryd.ntmps43
  go_wp2
  refine bodyPost_ret (v := .agg #[.int .i64 x, .int .i64 y]) (by simp (maxDischargeDepth := 8) [results, Tryd.results43, go_sem]) rfl (Ret.mk ?_ (?_ : Bel _ _))
  · exact H.out
  · (repeat (first | with_reducible exact Bel.refl _ | with_reducible assumption | apply Bel.ext | apply Bel.alloc | apply Bel.drew | exact Bel.refl _ | refine Bel.set ?_ (by first | (simp; done) | (simp [go_sem]; done) | omega) _))
set_option maxHeartbeats 1000000 in
theorem eqPoint_c (x y x' y' : Int) (w : World) : Calls Tryd.prog 48 #[.agg #[.int .i64 x, .int .i64 y], .agg #[.int .i64 x', .int .i64 y']] w (Ret (.bool (x == x' && y == y')) w) := by
  refine hide_ret fun v H => ?_
  go_enter Tryd.func48, Tryd.ntmps48
  go_wp2
  all_goals go_ret
  all_goals refine Ret.mk ?_ (?_ : Bel _ _)
  all_goals first | ((repeat (first | with_reducible exact Bel.refl _ | with_reducible assumption | apply Bel.ext | apply Bel.alloc | apply Bel.drew | exact Bel.refl _ | refine Bel.set ?_ (by first | (simp; done) | (simp [go_sem]; done) | omega) _)); done) | (rw [← H.out]; simp_all; done) | (rw [← H.out]; rename_i h1 h2; rcases h1 with h1 | h1 <;> simp_all)
set_option maxHeartbeats 1000000 in
theorem eqPointS_c (u v : Value) (xs ys : List (Int × Int)) (w : World) (hu : Rd cel2 w u xs) (hv : Rd cel2 w v ys) :
    Calls Tryd.prog 24 #[u, v] w (Ret (.bool (decide (xs = ys))) w) := by
  refine hide_ret fun r H => ?_
  obtain ⟨a, n, c, rfl, hs⟩ := hu.sl
  obtain ⟨a', n', c', rfl, hs'⟩ := hv.sl
  have hcap := hs.le; have hmax := hs.cap; have hcap' := hs'.le; have hmax' := hs'.cap
  unfold maxLen at hmax hmax'
  by_cases hn : n = n'
  · subst hn
    have hb : ((n : Int) != n) = false := by simp
    go_enter Tryd.func24, Tryd.ntmps24
    go_wp2
    go_loopw [5] (fun i wr => ∃ k : Nat, k ≤ n ∧ i = .int .i64 k ∧ (∃ g, wr = ext w g) ∧ Hid (r = .bool (decide (xs.drop k = ys.drop k)))) (fun i _ => n - (intOf i).toNat)
    case atStart => exact ⟨0, Nat.zero_le _, rfl, ext_ex (Bel.refl _), Lib.hid (by rw [← H.out]; rfl)⟩
    case round =>
      obtain ⟨k, hk, rfl, ⟨g, rfl⟩, hr⟩ := hrel
      by_cases hlt : k < n
      · obtain ⟨b, off, rfl, hb1⟩ := hs.base hlt
        obtain ⟨b', off', rfl, hb2⟩ := hs'.base hlt
        obtain ⟨x, y, hx, hc0, hc1⟩ := hs.at2 hlt
        obtain ⟨x', y', hy, hd0, hd1⟩ := hs'.at2 hlt
        rcases hxy : (x == x' && y == y') with _ | _
        · have hne : (x, y) ≠ (x', y') := by intro e; simp only [Prod.mk.injEq] at e; simp [e] at hxy
          have Hne := Lib.hid hne
          clear hne
          have hq : ∀ w, Calls Tryd.prog 48 #[.agg #[.int .i64 x, .int .i64 y], .agg #[.int .i64 x', .int .i64 y']] w (Ret (.bool false) w) := fun w => hxy ▸ eqPoint_c x y x' y' w
          have HQ := Lib.hid hq
          clear hq hxy
          go_wp2_with fail
          refine region_ext (by kernel_rfl) (by kernel_rfl) ?_
          repeat (go_big_quiet_step (first | (go_at_call 48; exact Calls.in_ret (HQ.out _))))
          refine wpQuiet_nil ?_
          rintro _ ⟨_, rfl⟩
          go_wp2
          go_ret
          refine Ret.mk ?_ (?_ : Bel _ _)
          · rw [hr.out, drop_cons_of hx.out, drop_cons_of hy.out]
            rw [decide_eq_false (fun e => Hne.out (List.cons.inj e).1)]; rfl
          · (repeat (first | with_reducible exact Bel.refl _ | with_reducible assumption | apply Bel.ext | apply Bel.alloc | apply Bel.drew | exact Bel.refl _ | refine Bel.set ?_ (by first | (simp; done) | (simp [go_sem]; done) | omega) _))
        · have hne : (x, y) = (x', y') := by simp only [Bool.and_eq_true, beq_iff_eq] at hxy; simp only [Prod.mk.injEq]; omega
          have Hne := Lib.hid hne
          clear hne
          have hq : ∀ w, Calls Tryd.prog 48 #[.agg #[.int .i64 x, .int .i64 y], .agg #[.int .i64 x', .int .i64 y']] w (Ret (.bool true) w) := fun w => hxy ▸ eqPoint_c x y x' y' w
          have HQ := Lib.hid hq
          clear hq hxy
          go_wp2_with fail
          refine region_ext (by kernel_rfl) (by kernel_rfl) ?_
          repeat (go_big_quiet_step (first | (go_at_call 48; exact Calls.in_ret (HQ.out _))))
          refine wpQuiet_nil ?_
          rintro _ ⟨_, rfl⟩
          go_wp2
          go_roundw
          case rel =>
            refine ⟨k + 1, by omega, by go_num, ext_ex (by (repeat (first | with_reducible exact Bel.refl _ | with_reducible assumption | apply Bel.ext | apply Bel.alloc | apply Bel.drew | exact Bel.refl _ | refine Bel.set ?_ (by first | (simp; done) | (simp [go_sem]; done) | omega) _)) : Bel _ _), Lib.hid ?_⟩
            rw [hr.out, drop_cons_of hx.out, drop_cons_of hy.out, Hne.out]; simp
          case measure => simp [intOf]; omega
      · go_wp2_with (fail)
        all_goals (try ((refine region_ext (by kernel_rfl) (by kernel_rfl) ?_; (repeat (go_big_quiet_step (fail))); refine wpQuiet_nil ?_; rintro _ ⟨_, rfl⟩); go_wp2_with (fail)))
        go_ret
        refine Ret.mk ?_ (?_ : Bel _ _)
        · rw [hr.out, List.drop_of_length_le (by have := hs.len; omega), List.drop_of_length_le (by have := hs'.len; omega)]; simp
        · (repeat (first | with_reducible exact Bel.refl _ | with_reducible assumption | apply Bel.ext | apply Bel.alloc | apply Bel.drew | exact Bel.refl _ | refine Bel.set ?_ (by first | (simp; done) | (simp [go_sem]; done) | omega) _))
  · have hb : ((n : Int) != n') = true := by simp; omega
    go_enter Tryd.func24, Tryd.ntmps24
    go_wp2
    go_ret
    refine Ret.mk ?_ (?_ : Bel _ _)
    · rw [← H.out]; simp
      intro e; exact hn (by rw [hs.len, hs'.len, e])
    · (repeat (first | with_reducible exact Bel.refl _ | with_reducible assumption | apply Bel.ext | apply Bel.alloc | apply Bel.drew | exact Bel.refl _ | refine Bel.set ?_ (by first | (simp; done) | (simp [go_sem]; done) | omega) _))
set_option maxHeartbeats 1000000 in
theorem szPointS_c (a : Option Addr) (n c : Nat) (l : Int) (h1 : 0 ≤ l) (h2 : l ≤ 1000000000000) (h3 : n ≤ 9223372036854775807) (w : World) :
    Calls Tryd.prog 19 #[.slice a n c, .int .i64 l] w (Same (.int .i64 (if l < n then -1 else l - n)) w) := by
  refine hide_same fun v H => ?_
  by_cases h : l < n
  · go_enter Tryd.func19, Tryd.ntmps19
    go_wp2
    go_ret
    refine Same.mk ?_; rw [← H.out, if_pos h]; rfl
  · go_enter Tryd.func19, Tryd.ntmps19
    go_wp2
    go_ret
    refine Same.mk ?_; rw [← H.out, if_neg (by omega)]; rfl
theorem appPoint : AppF Tryd.prog 44 71 2 16 := appF_of (z := .agg #[.int .i64 0, .int .i64 0]) Tryd.underlying44 (by kernel_rfl) rfl
set_option maxHeartbeats 2000000 in
theorem toPointS_c (u : Value) (xs : List (Int × Int)) (w : World) (hu : Rd cel2 w u xs) (hn : xs.length ≤ 1000000000) :
    Calls Tryd.prog 21 #[u] w (RetRow 71 2 (fun v => v) xs.length (cel2.row xs) w) := by
  generalize hR : RetRow _ _ _ _ _ w = R
  have HR := Lib.hid hR
  clear hR
  obtain ⟨a, n, c, rfl, hs⟩ := hu.sl
  have hcap := hs.le; have hmax := hs.cap
  unfold maxLen at hmax
  have hl := hs.len
  have HL := Lib.hid hl
  rw [← hl] at hn
  clear hl
  go_enter Tryd.func21, Tryd.ntmps21
  go_wp2_with (at_make; refine wpList_make_ext _ rfl _ _ 44 71 2 16 rfl appPoint n rfl rfl (by omega) (by omega) ?_; intro g0 cs hcs hown)
  have HC := Lib.hid hcs
  clear hcs
  have HO := Lib.hid hown
  clear hown
  go_loopw [4] (fun i wr => ∃ j : Nat, j ≤ n ∧ i = .int .i64 j ∧ Bel w wr ∧ Hid (wr.ownsRow w.heap.size 71 2 (.slice (some ⟨w.heap.size, 0, none⟩) n n) n (cel2.row (xs.take j) ++ cs.drop (j * 2)))) (fun i _ => n - (intOf i).toNat)
  case atStart => exact ⟨0, Nat.zero_le _, rfl, (Bel.refl _).ext _, Lib.hid (by simpa [Cel.row] using HO.out)⟩
  case round =>
    obtain ⟨j, hj, rfl, hbel, hown⟩ := hrel
    obtain ⟨g, rfl⟩ := ext_ex hbel
    by_cases hlt : j < n
    · obtain ⟨b, off, rfl, hb1⟩ := hs.base hlt
      obtain ⟨x, y, hx, hc0, hc1⟩ := hs.at2 hlt
      obtain ⟨bb, cc, hv2, hbb1, hbb2, -, -, hc, hf⟩ := own_far hown.out (by omega)
      cases hv2
      have hA : (cel2.row (xs.take j)).length = j * 2 := by rw [Cel.row_len, List.length_take, Nat.min_eq_left (by rw [← HL.out]; omega)]; rfl
      have hgl : ∀ i, i < 2 → ∃ u, farCell w g w.heap.size (j * 2 + i) = some u := fun i hi => by
        have hq : j * 2 + i < (cel2.row (xs.take j) ++ cs.drop (j * 2)).length := by rw [List.length_append, hA, List.length_drop, HC.out]; omega
        exact ⟨_, hc _ _ (List.getElem?_eq_getElem hq)⟩
      obtain ⟨u0, hu0⟩ := hgl 0 (by omega)
      have hf0 := hf (j * 2)
      obtain ⟨u1, hu1⟩ := hgl 1 (by omega)
      have hf1 := hf (j * 2 + 1)
      clear hf
      simp only [Nat.add_zero] at hu0
      clear hc hgl
      have hbe := hbb1
      go_wp2_with (go_at_call 43; refine (toPoint_c _ _ _).mono ?_; rintro e w' ⟨rfl, _, rfl⟩)
      go_roundw
      case rel =>
        refine ⟨j + 1, by omega, by go_num, by (repeat (first | with_reducible exact Bel.refl _ | with_reducible assumption | apply Bel.ext | apply Bel.alloc | apply Bel.drew | exact Bel.refl _ | refine Bel.set ?_ (by first | (simp; done) | (simp [go_sem]; done) | omega) _)), Lib.hid ?_⟩
        have ht : cel2.row (xs.take (j + 1)) ++ cs.drop ((j + 1) * 2) = ((cel2.row (xs.take j) ++ cs.drop (j * 2)).set (j * 2) (Value.int .i64 x)).set (j * 2 + 1) (Value.int .i64 y) := by
          rw [take_snoc_of hx.out, Cel.row_append, Cel.row_one]
          rw [set_next (cel2.row (xs.take j)) cs (j * 2) (Value.int .i64 x) (by simp [hA]) (by rw [HC.out]; omega), set_next (cel2.row (xs.take j) ++ [Value.int .i64 x]) cs (j * 2 + 1) (Value.int .i64 y) (by simp [hA]) (by rw [HC.out]; omega)]
          rw [show (j + 1) * 2 = j * 2 + 2 from by omega]
          simp [cel2]
        rw [ht]
        exact own_stored (own_stored (own_bel hown.out (by (repeat (first | with_reducible exact Bel.refl _ | with_reducible assumption | apply Bel.ext | apply Bel.alloc | apply Bel.drew | exact Bel.refl _ | refine Bel.set ?_ (by first | (simp; done) | (simp [go_sem]; done) | omega) _)))) _ _) _ _
      case measure => simp [intOf]; omega
    · go_wp2
      have hj' : j = n := by omega
      subst hj'
      rw [← HR.out]
      refine RetRow.mk' rfl hbel ?_
      have := hown.out
      rw [List.drop_of_length_le (by rw [HC.out]; exact Nat.le_refl _), List.append_nil, List.take_of_length_le (by rw [HL.out]; exact Nat.le_refl _)] at this
      rw [← HL.out]; exact this
end Go.Proofs.YtdneffnnpjgnbacDoor
