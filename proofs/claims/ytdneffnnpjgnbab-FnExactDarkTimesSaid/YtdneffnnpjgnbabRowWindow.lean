/- What the laws' helpers on slices of Window do: copying, comparing, marking, looking at marks. -/
import Derived.Test.YtdneffnnpjgnbabBase
import Derived.Test.YtdneffnnpjgnbabRow
import Derived.Test.YtdneffnnpjgnbabRows
namespace Go.Proofs.Ytdneffnnpjgnbab
open Go.RowKit

set_option maxHeartbeats 400000 in
theorem toWindow_c (x y : Int) (w : World) : Calls Try.prog 21 #[.agg #[.int .i64 x, .int .i64 y]] w (Ret (.agg #[.int .i64 x, .int .i64 y]) w) := by
  refine hide_ret fun v H => ?_
  go_enter Try.func21, Try.ntmps21
  go_wp2
  refine bodyPost_ret (v := .agg #[.int .i64 x, .int .i64 y]) (by simp (maxDischargeDepth := 8) [results, Try.results21, go_sem]) rfl (Ret.mk ?_ (?_ : Bel _ _))
  · exact H.out
  · (repeat (first | with_reducible exact Bel.refl _ | with_reducible assumption | apply Bel.ext | apply Bel.alloc | apply Bel.drew | exact Bel.refl _ | refine Bel.set ?_ (by first | (simp; done) | (simp [go_sem]; done) | omega) _))
set_option maxHeartbeats 1000000 in
theorem eqWindow_c (x y x' y' : Int) (w : World) : Calls Try.prog 25 #[.agg #[.int .i64 x, .int .i64 y], .agg #[.int .i64 x', .int .i64 y']] w (Ret (.bool (x == x' && y == y')) w) := by
  refine hide_ret fun v H => ?_
  go_enter Try.func25, Try.ntmps25
  go_wp2
  all_goals go_ret
  all_goals refine Ret.mk ?_ (?_ : Bel _ _)
  all_goals first | ((repeat (first | with_reducible exact Bel.refl _ | with_reducible assumption | apply Bel.ext | apply Bel.alloc | apply Bel.drew | exact Bel.refl _ | refine Bel.set ?_ (by first | (simp; done) | (simp [go_sem]; done) | omega) _)); done) | (rw [← H.out]; simp_all; done) | (rw [← H.out]; rename_i h1 h2; rcases h1 with h1 | h1 <;> simp_all)
set_option maxHeartbeats 1000000 in
theorem eqWindowS_c (u v : Value) (xs ys : List (Int × Int)) (w : World) (hu : Rd cel2 w u xs) (hv : Rd cel2 w v ys) :
    Calls Try.prog 11 #[u, v] w (Ret (.bool (decide (xs = ys))) w) := by
  refine hide_ret fun r H => ?_
  obtain ⟨a, n, c, rfl, hs⟩ := hu.sl
  obtain ⟨a', n', c', rfl, hs'⟩ := hv.sl
  have hcap := hs.le; have hmax := hs.cap; have hcap' := hs'.le; have hmax' := hs'.cap
  unfold maxLen at hmax hmax'
  by_cases hn : n = n'
  · subst hn
    have hb : ((n : Int) != n) = false := by simp
    go_enter Try.func11, Try.ntmps11
    go_wp2
    go_loopw [5] (fun i wr => ∃ k : Nat, k ≤ n ∧ i = .int .i64 k ∧ (∃ g, wr = ext w g) ∧ Hid (r = .bool (decide (xs.drop k = ys.drop k)))) (fun i _ => n - (intOf i).toNat)
    case atStart => exact ⟨0, Nat.zero_le _, rfl, ext_ex (Bel.refl _), Lib.hid (by rw [← H.out]; rfl)⟩
    case round =>
      obtain ⟨k, hk, rfl, ⟨g, rfl⟩, hr⟩ := hrel
      by_cases hlt : k < n
      · obtain ⟨b, off, rfl, hb1⟩ := hs.base hlt
        obtain ⟨b', off', rfl, hb2⟩ := hs'.base hlt
        obtain ⟨x, y, hx, hc0, hc1⟩ := hs.at2 hlt
        obtain ⟨x', y', hy, hd0, hd1⟩ := hs'.at2 hlt
        rcases hxy : (x == x' && y == y') with _ | _
        · have hne : (x, y) ≠ (x', y') := by intro e; simp only [Prod.mk.injEq] at e; simp [e] at hxy
          have Hne := Lib.hid hne
          clear hne
          have hq : ∀ w, Calls Try.prog 25 #[.agg #[.int .i64 x, .int .i64 y], .agg #[.int .i64 x', .int .i64 y']] w (Ret (.bool false) w) := fun w => hxy ▸ eqWindow_c x y x' y' w
          have HQ := Lib.hid hq
          clear hq hxy
          go_wp2_with fail
          refine region_ext (by kernel_rfl) (by kernel_rfl) ?_
          repeat (go_big_quiet_step (first | (go_at_call 25; exact Calls.in_ret (HQ.out _))))
          refine wpQuiet_nil ?_
          rintro _ ⟨_, rfl⟩
          go_wp2
          go_ret
          refine Ret.mk ?_ (?_ : Bel _ _)
          · rw [hr.out, drop_cons_of hx.out, drop_cons_of hy.out]
            rw [decide_eq_false (fun e => Hne.out (List.cons.inj e).1)]; rfl
          · (repeat (first | with_reducible exact Bel.refl _ | with_reducible assumption | apply Bel.ext | apply Bel.alloc | apply Bel.drew | exact Bel.refl _ | refine Bel.set ?_ (by first | (simp; done) | (simp [go_sem]; done) | omega) _))
        · have hne : (x, y) = (x', y') := by simp only [Bool.and_eq_true, beq_iff_eq] at hxy; simp only [Prod.mk.injEq]; omega
          have Hne := Lib.hid hne
          clear hne
          have hq : ∀ w, Calls Try.prog 25 #[.agg #[.int .i64 x, .int .i64 y], .agg #[.int .i64 x', .int .i64 y']] w (Ret (.bool true) w) := fun w => hxy ▸ eqWindow_c x y x' y' w
          have HQ := Lib.hid hq
          clear hq hxy
          go_wp2_with fail
          refine region_ext (by kernel_rfl) (by kernel_rfl) ?_
          repeat (go_big_quiet_step (first | (go_at_call 25; exact Calls.in_ret (HQ.out _))))
          refine wpQuiet_nil ?_
          rintro _ ⟨_, rfl⟩
          go_wp2
          go_roundw
          case rel =>
            refine ⟨k + 1, by omega, by go_num, ext_ex (by (repeat (first | with_reducible exact Bel.refl _ | with_reducible assumption | apply Bel.ext | apply Bel.alloc | apply Bel.drew | exact Bel.refl _ | refine Bel.set ?_ (by first | (simp; done) | (simp [go_sem]; done) | omega) _)) : Bel _ _), Lib.hid ?_⟩
            rw [hr.out, drop_cons_of hx.out, drop_cons_of hy.out, Hne.out]; simp
          case measure => simp [intOf]; omega
      · go_wp2_with (fail)
        all_goals (try ((refine region_ext (by kernel_rfl) (by kernel_rfl) ?_; (repeat (go_big_quiet_step (fail))); refine wpQuiet_nil ?_; rintro _ ⟨_, rfl⟩); go_wp2_with (fail)))
        go_ret
        refine Ret.mk ?_ (?_ : Bel _ _)
        · rw [hr.out, List.drop_of_length_le (by have := hs.len; omega), List.drop_of_length_le (by have := hs'.len; omega)]; simp
        · (repeat (first | with_reducible exact Bel.refl _ | with_reducible assumption | apply Bel.ext | apply Bel.alloc | apply Bel.drew | exact Bel.refl _ | refine Bel.set ?_ (by first | (simp; done) | (simp [go_sem]; done) | omega) _))
  · have hb : ((n : Int) != n') = true := by simp; omega
    go_enter Try.func11, Try.ntmps11
    go_wp2
    go_ret
    refine Ret.mk ?_ (?_ : Bel _ _)
    · rw [← H.out]; simp
      intro e; exact hn (by rw [hs.len, hs'.len, e])
    · (repeat (first | with_reducible exact Bel.refl _ | with_reducible assumption | apply Bel.ext | apply Bel.alloc | apply Bel.drew | exact Bel.refl _ | refine Bel.set ?_ (by first | (simp; done) | (simp [go_sem]; done) | omega) _))
set_option maxHeartbeats 1000000 in
theorem szWindowS_c (a : Option Addr) (n c : Nat) (l : Int) (h1 : 0 ≤ l) (h2 : l ≤ 1000000000000) (h3 : n ≤ 9223372036854775807) (w : World) :
    Calls Try.prog 7 #[.slice a n c, .int .i64 l] w (Same (.int .i64 (if l < n then -1 else l - n)) w) := by
  refine hide_same fun v H => ?_
  by_cases h : l < n
  · go_enter Try.func7, Try.ntmps7
    go_wp2
    go_ret
    refine Same.mk ?_; rw [← H.out, if_pos h]; rfl
  · go_enter Try.func7, Try.ntmps7
    go_wp2
    go_ret
    refine Same.mk ?_; rw [← H.out, if_neg (by omega)]; rfl
theorem appWindow : AppF Try.prog 24 35 2 16 := appF_of (z := .agg #[.int .i64 0, .int .i64 0]) Try.underlying24 (by kernel_rfl) rfl
set_option maxHeartbeats 2000000 in
theorem toWindowS_c (u : Value) (xs : List (Int × Int)) (w : World) (hu : Rd cel2 w u xs) (hn : xs.length ≤ 1000000000) :
    Calls Try.prog 9 #[u] w (RetRow 35 2 (fun v => v) xs.length (cel2.row xs) w) := by
  generalize hR : RetRow _ _ _ _ _ w = R
  have HR := Lib.hid hR
  clear hR
  obtain ⟨a, n, c, rfl, hs⟩ := hu.sl
  have hcap := hs.le; have hmax := hs.cap
  unfold maxLen at hmax
  have hl := hs.len
  have HL := Lib.hid hl
  rw [← hl] at hn
  clear hl
  go_enter Try.func9, Try.ntmps9
  go_wp2_with (at_make; refine wpList_make_ext _ rfl _ _ 24 35 2 16 rfl appWindow n rfl rfl (by omega) (by omega) ?_; intro g0 cs hcs hown)
  have HC := Lib.hid hcs
  clear hcs
  have HO := Lib.hid hown
  clear hown
  go_loopw [4] (fun i wr => ∃ j : Nat, j ≤ n ∧ i = .int .i64 j ∧ Bel w wr ∧ Hid (wr.ownsRow w.heap.size 35 2 (.slice (some ⟨w.heap.size, 0, none⟩) n n) n (cel2.row (xs.take j) ++ cs.drop (j * 2)))) (fun i _ => n - (intOf i).toNat)
  case atStart => exact ⟨0, Nat.zero_le _, rfl, (Bel.refl _).ext _, Lib.hid (by simpa [Cel.row] using HO.out)⟩
  case round =>
    obtain ⟨j, hj, rfl, hbel, hown⟩ := hrel
    obtain ⟨g, rfl⟩ := ext_ex hbel
    by_cases hlt : j < n
    · obtain ⟨b, off, rfl, hb1⟩ := hs.base hlt
      obtain ⟨x, y, hx, hc0, hc1⟩ := hs.at2 hlt
      obtain ⟨bb, cc, hv2, hbb1, hbb2, -, -, hc, hf⟩ := own_far hown.out (by omega)
      cases hv2
      have hA : (cel2.row (xs.take j)).length = j * 2 := by rw [Cel.row_len, List.length_take, Nat.min_eq_left (by rw [← HL.out]; omega)]; rfl
      have hgl : ∀ i, i < 2 → ∃ u, farCell w g w.heap.size (j * 2 + i) = some u := fun i hi => by
        have hq : j * 2 + i < (cel2.row (xs.take j) ++ cs.drop (j * 2)).length := by rw [List.length_append, hA, List.length_drop, HC.out]; omega
        exact ⟨_, hc _ _ (List.getElem?_eq_getElem hq)⟩
      obtain ⟨u0, hu0⟩ := hgl 0 (by omega)
      have hf0 := hf (j * 2)
      obtain ⟨u1, hu1⟩ := hgl 1 (by omega)
      have hf1 := hf (j * 2 + 1)
      clear hf
      simp only [Nat.add_zero] at hu0
      clear hc hgl
      have hbe := hbb1
      go_wp2_with (go_at_call 21; refine (toWindow_c _ _ _).mono ?_; rintro e w' ⟨rfl, _, rfl⟩)
      go_roundw
      case rel =>
        refine ⟨j + 1, by omega, by go_num, by (repeat (first | with_reducible exact Bel.refl _ | with_reducible assumption | apply Bel.ext | apply Bel.alloc | apply Bel.drew | exact Bel.refl _ | refine Bel.set ?_ (by first | (simp; done) | (simp [go_sem]; done) | omega) _)), Lib.hid ?_⟩
        have ht : cel2.row (xs.take (j + 1)) ++ cs.drop ((j + 1) * 2) = ((cel2.row (xs.take j) ++ cs.drop (j * 2)).set (j * 2) (Value.int .i64 x)).set (j * 2 + 1) (Value.int .i64 y) := by
          rw [take_snoc_of hx.out, Cel.row_append, Cel.row_one]
          rw [set_next (cel2.row (xs.take j)) cs (j * 2) (Value.int .i64 x) (by simp [hA]) (by rw [HC.out]; omega), set_next (cel2.row (xs.take j) ++ [Value.int .i64 x]) cs (j * 2 + 1) (Value.int .i64 y) (by simp [hA]) (by rw [HC.out]; omega)]
          rw [show (j + 1) * 2 = j * 2 + 2 from by omega]
          simp [cel2]
        rw [ht]
        exact own_stored (own_stored (own_bel hown.out (by (repeat (first | with_reducible exact Bel.refl _ | with_reducible assumption | apply Bel.ext | apply Bel.alloc | apply Bel.drew | exact Bel.refl _ | refine Bel.set ?_ (by first | (simp; done) | (simp [go_sem]; done) | omega) _)))) _ _) _ _
      case measure => simp [intOf]; omega
    · go_wp2
      have hj' : j = n := by omega
      subst hj'
      rw [← HR.out]
      refine RetRow.mk' rfl hbel ?_
      have := hown.out
      rw [List.drop_of_length_le (by rw [HC.out]; exact Nat.le_refl _), List.append_nil, List.take_of_length_le (by rw [HL.out]; exact Nat.le_refl _)] at this
      rw [← HL.out]; exact this
set_option maxHeartbeats 2000000 in
theorem markWindowS_c (v : Value) (e : TypeId) (n : Nat) (cs : List Value) (k : Int) (W w : World) (hb : Bel W w) (ho : w.ownsRow W.heap.size e 2 v n cs) (hn : n ≤ 1000000000) (h1 : 0 ≤ k) (h2 : k ≤ 1000000000000) :
    Calls Try.prog 12 #[v, .int .i64 k] w (RetMark v e 2 n k W w) := by
  obtain ⟨a, c, hv, hnc, hcm⟩ := own_len ho
  unfold maxLen at hcm
  generalize hR : RetMark v e 2 n k W w = R
  have HR := Lib.hid hR
  clear hR
  have hl : cs.length = n * 2 := ho.1
  have HL := Lib.hid hl
  clear hl
  subst hv
  go_enter Try.func12, Try.ntmps12
  go_wp2
  go_loopw [1, 5] (fun x i wr => ∃ j : Nat, j ≤ n ∧ i = .int .i64 j ∧ x = .int .i64 (k + (j * 2 : Nat)) ∧ Bel W wr ∧ Hid (w.grownBy wr (Value.ownBlock (.slice a n c))) ∧ Hid (wr.ownsRow W.heap.size e 2 (.slice a n c) n (markCells k (j * 2) ++ cs.drop (j * 2)))) (fun _ i _ => n - (intOf i).toNat)
  case atStart => exact ⟨0, Nat.zero_le _, rfl, by simp, hb, Lib.hid (grown_refl _ _), Lib.hid (by simpa [markCells] using ho)⟩
  case round =>
    obtain ⟨j, hj, rfl, rfl, hbel, hg, hown⟩ := hrel
    obtain ⟨g, rfl⟩ := ext_ex hbel
    by_cases hlt : j < n
    · obtain ⟨b, c', hv2, hb1, hb2, -, -, hc, hf⟩ := own_far hown.out (by omega)
      cases hv2
      have hgl : ∀ i, i < 2 → ∃ u, farCell W g b (j * 2 + i) = some u := fun i hi => by
        have hq : j * 2 + i < (markCells k (j * 2) ++ cs.drop (j * 2)).length := by rw [List.length_append, markCells_len, List.length_drop, HL.out]; omega
        exact ⟨_, hc _ _ (List.getElem?_eq_getElem hq)⟩
      obtain ⟨u0, hu0⟩ := hgl 0 (by omega)
      have hf0 := hf (j * 2)
      obtain ⟨u1, hu1⟩ := hgl 1 (by omega)
      have hf1 := hf (j * 2 + 1)
      clear hf
      simp only [Nat.add_zero] at hu0
      clear hc hgl
      go_wp2
      go_roundw
      case rel =>
        refine ⟨j + 1, by omega, by go_num, by first | go_num | (congr 1; omega), by (repeat (first | with_reducible exact Bel.refl _ | with_reducible assumption | apply Bel.ext | apply Bel.alloc | apply Bel.drew | exact Bel.refl _ | refine Bel.set ?_ (by first | (simp; done) | (simp [go_sem]; done) | omega) _)), Lib.hid ?_, Lib.hid ?_⟩
        · exact grown_trans (grown_trans (hg.out) (set_grown _ _ _ _)) (set_grown _ _ _ _)
        · have ht : markCells k ((j + 1) * 2) ++ cs.drop ((j + 1) * 2) = ((markCells k (j * 2) ++ cs.drop (j * 2)).set (j * 2) (Value.int .i64 (k + ((j * 2 : Nat) : Int)))).set (j * 2 + 1) (Value.int .i64 (k + ((j * 2 + 1 : Nat) : Int))) := by
            rw [set_mark k cs (j * 2) (by rw [HL.out]; omega), set_mark k cs (j * 2 + 1) (by rw [HL.out]; omega)]
            rw [show (j + 1) * 2 = j * 2 + 2 from by omega]
          rw [ht]
          have hst := own_stored (own_stored (hown.out) (j * 2) (Value.int .i64 (k + ((j * 2 : Nat) : Int)))) (j * 2 + 1) (Value.int .i64 (k + ((j * 2 + 1 : Nat) : Int)))
          simpa [Int.natCast_add, Int.natCast_mul, Int.add_assoc] using hst
      case measure => simp [intOf]; omega
    · go_wp2
      have hj' : j = n := by omega
      subst hj'
      rw [← HR.out]
      refine ⟨by simp, g, rfl, ?_, hg.out⟩
      have := hown.out
      rw [List.drop_of_length_le (by rw [HL.out]; exact Nat.le_refl _), List.append_nil] at this
      exact this
set_option maxHeartbeats 1000000 in
theorem heldWindowS_c (v : Value) (B : Nat) (e : TypeId) (n : Nat) (k : Int) (w : World) (ho : w.ownsRow B e 2 v n (markCells k (n * 2))) (hn : n ≤ 1000000000) (h1 : 0 ≤ k) (h2 : k ≤ 1000000000000) :
    Calls Try.prog 13 #[v, .int .i64 k] w (Ret (.int .i64 (k + (n * 2 : Nat))) w) := by
  refine hide_ret fun r H => ?_
  have hrd : Rd cel2 w v ((List.range n).map fun (i : Nat) => (k + ((i * 2 : Nat) : Int), k + ((i * 2 + 1 : Nat) : Int))) := rd_of_row (B := B) (e := e) (by
    simp only [List.length_map, List.length_range]
    rw [show cel2.row ((List.range n).map fun (i : Nat) => (k + ((i * 2 : Nat) : Int), k + ((i * 2 + 1 : Nat) : Int))) = markCells k (n * 2) from row_marks2 k n]
    exact ho)
  obtain ⟨a, m, c, rfl, hs⟩ := hrd.sl
  have hm : m = n := by have := hs.len; simpa using this
  subst hm
  have hcap := hs.le; have hmax := hs.cap
  unfold maxLen at hmax
  go_enter Try.func13, Try.ntmps13
  go_wp2
  go_loopw [1, 5] (fun x i wr => ∃ j : Nat, j ≤ m ∧ i = .int .i64 j ∧ x = .int .i64 (k + (j * 2 : Nat)) ∧ ∃ g, wr = ext w g) (fun _ i _ => m - (intOf i).toNat)
  case atStart => exact ⟨0, Nat.zero_le _, rfl, by go_num, ext_ex (Bel.refl _)⟩
  case round =>
    obtain ⟨j, hj, rfl, rfl, g, rfl⟩ := hrel
    by_cases hlt : j < m
    · obtain ⟨b, off, rfl, hb1⟩ := hs.base hlt
      obtain ⟨x, y, hx, hc0, hc1⟩ := hs.at2 hlt
      have hx' : (x, y) = (k + ((j * 2 : Nat) : Int), k + ((j * 2 + 1 : Nat) : Int)) := by have := hx.out; simp only [List.getElem?_map, List.getElem?_range hlt, Option.map_some, Option.some.injEq] at this; exact this.symm
      simp only [Prod.mk.injEq] at hx'
      obtain ⟨rfl, rfl⟩ := hx'
      have hne0 : (k + ((j * 2 : Nat) : Int) != k + ((j * 2 : Nat) : Int)) = false := by first | (simp; done) | (simp; omega)
      have hne1 : (k + ((j * 2 + 1 : Nat) : Int) != k + ((j * 2 : Nat) : Int) + 1) = false := by first | (simp; done) | (simp; omega)
      go_wp2_with (fail)
      all_goals (try ((refine region_ext (by kernel_rfl) (by kernel_rfl) ?_; (repeat (go_big_quiet_step (fail))); refine wpQuiet_nil ?_; rintro _ ⟨_, rfl⟩); go_wp2_with (fail)))
      go_roundw
      case rel => exact ⟨j + 1, by omega, by go_num, by first | go_num | (congr 1; omega), ext_ex (by (repeat (first | with_reducible exact Bel.refl _ | with_reducible assumption | apply Bel.ext | apply Bel.alloc | apply Bel.drew | exact Bel.refl _ | refine Bel.set ?_ (by first | (simp; done) | (simp [go_sem]; done) | omega) _)) : Bel _ _)⟩
      case measure => simp [intOf]; omega
    · go_wp2_with (fail)
      all_goals (try ((refine region_ext (by kernel_rfl) (by kernel_rfl) ?_; (repeat (go_big_quiet_step (fail))); refine wpQuiet_nil ?_; rintro _ ⟨_, rfl⟩); go_wp2_with (fail)))
      go_ret
      have hj' : j = m := by omega
      subst hj'
      refine Ret.mk ?_ (?_ : Bel _ _)
      · first | exact H.out | (rw [← H.out]; simp)
      · (repeat (first | with_reducible exact Bel.refl _ | with_reducible assumption | apply Bel.ext | apply Bel.alloc | apply Bel.drew | exact Bel.refl _ | refine Bel.set ?_ (by first | (simp; done) | (simp [go_sem]; done) | omega) _))
end Go.Proofs.Ytdneffnnpjgnbab
