/- What the laws' helpers on slices of Model do: copying, comparing, marking, looking at marks. -/
import Derived.Test.YtjdcdcfhnpephaaBase
import Derived.Test.YtjdcdcfhnpephaaRow
import Derived.Test.YtjdcdcfhnpephaaRows
namespace Go.Proofs.Ytjdcdcfhnpephaa
open Go.RowKit

set_option maxHeartbeats 400000 in
theorem toModel_c (x y z : Int) (w : World) : Calls Try.prog 13 #[.agg #[.int .i64 x, .int .i64 y, .int .i64 z]] w (Ret (.agg #[.int .i64 x, .int .i64 y, .int .i64 z]) w) := by
  refine hide_ret fun v H => ?_
  go_enter Try.func13, Try.ntmps13
  go_wp2
  refine bodyPost_ret (v := .agg #[.int .i64 x, .int .i64 y, .int .i64 z]) (by simp (maxDischargeDepth := 8) [results, Try.results13, go_sem]) rfl (Ret.mk ?_ (?_ : Bel _ _))
  · exact H.out
  · (repeat (first | with_reducible exact Bel.refl _ | with_reducible assumption | apply Bel.ext | apply Bel.alloc | apply Bel.drew | exact Bel.refl _ | refine Bel.set ?_ (by first | (simp; done) | (simp [go_sem]; done) | omega) _))
set_option maxHeartbeats 1000000 in
theorem eqModel_c (x y z x' y' z' : Int) (w : World) : Calls Try.prog 46 #[.agg #[.int .i64 x, .int .i64 y, .int .i64 z], .agg #[.int .i64 x', .int .i64 y', .int .i64 z']] w (Ret (.bool (x == x' && y == y' && z == z')) w) := by
  refine hide_ret fun v H => ?_
  go_enter Try.func46, Try.ntmps46
  go_wp2
  all_goals go_ret
  all_goals refine Ret.mk ?_ (?_ : Bel _ _)
  all_goals first | ((repeat (first | with_reducible exact Bel.refl _ | with_reducible assumption | apply Bel.ext | apply Bel.alloc | apply Bel.drew | exact Bel.refl _ | refine Bel.set ?_ (by first | (simp; done) | (simp [go_sem]; done) | omega) _)); done) | (rw [← H.out]; simp_all; done) | (rw [← H.out]; rename_i h1 h2; rcases h1 with h1 | h1 <;> simp_all)
set_option maxHeartbeats 1000000 in
theorem eqModelS_c (u v : Value) (xs ys : List (Int × Int × Int)) (w : World) (hu : Rd cel3 w u xs) (hv : Rd cel3 w v ys) :
    Calls Try.prog 39 #[u, v] w (Ret (.bool (decide (xs = ys))) w) := by
  refine hide_ret fun r H => ?_
  obtain ⟨a, n, c, rfl, hs⟩ := hu.sl
  obtain ⟨a', n', c', rfl, hs'⟩ := hv.sl
  have hcap := hs.le; have hmax := hs.cap; have hcap' := hs'.le; have hmax' := hs'.cap
  unfold maxLen at hmax hmax'
  by_cases hn : n = n'
  · subst hn
    have hb : ((n : Int) != n) = false := by simp
    go_enter Try.func39, Try.ntmps39
    go_wp2
    go_loopw [5] (fun i wr => ∃ k : Nat, k ≤ n ∧ i = .int .i64 k ∧ (∃ g, wr = ext w g) ∧ Hid (r = .bool (decide (xs.drop k = ys.drop k)))) (fun i _ => n - (intOf i).toNat)
    case atStart => exact ⟨0, Nat.zero_le _, rfl, ext_ex (Bel.refl _), Lib.hid (by rw [← H.out]; rfl)⟩
    case round =>
      obtain ⟨k, hk, rfl, ⟨g, rfl⟩, hr⟩ := hrel
      by_cases hlt : k < n
      · obtain ⟨b, off, rfl, hb1⟩ := hs.base hlt
        obtain ⟨b', off', rfl, hb2⟩ := hs'.base hlt
        obtain ⟨x, y, z, hx, hc0, hc1, hc2⟩ := hs.at3 hlt
        obtain ⟨x', y', z', hy, hd0, hd1, hd2⟩ := hs'.at3 hlt
        rcases hxy : (x == x' && y == y' && z == z') with _ | _
        · have hne : (x, y, z) ≠ (x', y', z') := by intro e; simp only [Prod.mk.injEq] at e; simp [e] at hxy
          have Hne := Lib.hid hne
          clear hne
          have hq : ∀ w, Calls Try.prog 46 #[.agg #[.int .i64 x, .int .i64 y, .int .i64 z], .agg #[.int .i64 x', .int .i64 y', .int .i64 z']] w (Ret (.bool false) w) := fun w => hxy ▸ eqModel_c x y z x' y' z' w
          have HQ := Lib.hid hq
          clear hq hxy
          go_wp2_with fail
          refine region_ext (by kernel_rfl) (by kernel_rfl) ?_
          repeat (go_big_quiet_step (first | (go_at_call 46; exact Calls.in_ret (HQ.out _))))
          refine wpQuiet_nil ?_
          rintro _ ⟨_, rfl⟩
          go_wp2
          go_ret
          refine Ret.mk ?_ (?_ : Bel _ _)
          · rw [hr.out, drop_cons_of hx.out, drop_cons_of hy.out]
            rw [decide_eq_false (fun e => Hne.out (List.cons.inj e).1)]; rfl
          · (repeat (first | with_reducible exact Bel.refl _ | with_reducible assumption | apply Bel.ext | apply Bel.alloc | apply Bel.drew | exact Bel.refl _ | refine Bel.set ?_ (by first | (simp; done) | (simp [go_sem]; done) | omega) _))
        · have hne : (x, y, z) = (x', y', z') := by simp only [Bool.and_eq_true, beq_iff_eq] at hxy; simp only [Prod.mk.injEq]; omega
          have Hne := Lib.hid hne
          clear hne
          have hq : ∀ w, Calls Try.prog 46 #[.agg #[.int .i64 x, .int .i64 y, .int .i64 z], .agg #[.int .i64 x', .int .i64 y', .int .i64 z']] w (Ret (.bool true) w) := fun w => hxy ▸ eqModel_c x y z x' y' z' w
          have HQ := Lib.hid hq
          clear hq hxy
          go_wp2_with fail
          refine region_ext (by kernel_rfl) (by kernel_rfl) ?_
          repeat (go_big_quiet_step (first | (go_at_call 46; exact Calls.in_ret (HQ.out _))))
          refine wpQuiet_nil ?_
          rintro _ ⟨_, rfl⟩
          go_wp2
          go_roundw
          case rel =>
            refine ⟨k + 1, by omega, by go_num, ext_ex (by (repeat (first | with_reducible exact Bel.refl _ | with_reducible assumption | apply Bel.ext | apply Bel.alloc | apply Bel.drew | exact Bel.refl _ | refine Bel.set ?_ (by first | (simp; done) | (simp [go_sem]; done) | omega) _)) : Bel _ _), Lib.hid ?_⟩
            rw [hr.out, drop_cons_of hx.out, drop_cons_of hy.out, Hne.out]; simp
          case measure => simp [intOf]; omega
      · go_wp2_with (fail)
        all_goals (try ((refine region_ext (by kernel_rfl) (by kernel_rfl) ?_; (repeat (go_big_quiet_step (fail))); refine wpQuiet_nil ?_; rintro _ ⟨_, rfl⟩); go_wp2_with (fail)))
        go_ret
        refine Ret.mk ?_ (?_ : Bel _ _)
        · rw [hr.out, List.drop_of_length_le (by have := hs.len; omega), List.drop_of_length_le (by have := hs'.len; omega)]; simp
        · (repeat (first | with_reducible exact Bel.refl _ | with_reducible assumption | apply Bel.ext | apply Bel.alloc | apply Bel.drew | exact Bel.refl _ | refine Bel.set ?_ (by first | (simp; done) | (simp [go_sem]; done) | omega) _))
  · have hb : ((n : Int) != n') = true := by simp; omega
    go_enter Try.func39, Try.ntmps39
    go_wp2
    go_ret
    refine Ret.mk ?_ (?_ : Bel _ _)
    · rw [← H.out]; simp
      intro e; exact hn (by rw [hs.len, hs'.len, e])
    · (repeat (first | with_reducible exact Bel.refl _ | with_reducible assumption | apply Bel.ext | apply Bel.alloc | apply Bel.drew | exact Bel.refl _ | refine Bel.set ?_ (by first | (simp; done) | (simp [go_sem]; done) | omega) _))
set_option maxHeartbeats 2000000 in
theorem markModelS_c (v : Value) (e : TypeId) (n : Nat) (cs : List Value) (k : Int) (W w : World) (hb : Bel W w) (ho : w.ownsRow W.heap.size e 3 v n cs) (hn : n ≤ 1000000000) (h1 : 0 ≤ k) (h2 : k ≤ 1000000000000) :
    Calls Try.prog 42 #[v, .int .i64 k] w (RetMark v e 3 n k W w) := by
  obtain ⟨a, c, hv, hnc, hcm⟩ := own_len ho
  unfold maxLen at hcm
  generalize hR : RetMark v e 3 n k W w = R
  have HR := Lib.hid hR
  clear hR
  have hl : cs.length = n * 3 := ho.1
  have HL := Lib.hid hl
  clear hl
  subst hv
  go_enter Try.func42, Try.ntmps42
  go_wp2
  go_loopw [1, 5] (fun x i wr => ∃ j : Nat, j ≤ n ∧ i = .int .i64 j ∧ x = .int .i64 (k + (j * 3 : Nat)) ∧ Bel W wr ∧ Hid (w.grownBy wr (Value.ownBlock (.slice a n c))) ∧ Hid (wr.ownsRow W.heap.size e 3 (.slice a n c) n (markCells k (j * 3) ++ cs.drop (j * 3)))) (fun _ i _ => n - (intOf i).toNat)
  case atStart => exact ⟨0, Nat.zero_le _, rfl, by simp, hb, Lib.hid (grown_refl _ _), Lib.hid (by simpa [markCells] using ho)⟩
  case round =>
    obtain ⟨j, hj, rfl, rfl, hbel, hg, hown⟩ := hrel
    obtain ⟨g, rfl⟩ := ext_ex hbel
    by_cases hlt : j < n
    · obtain ⟨b, c', hv2, hb1, hb2, -, -, hc, hf⟩ := own_far hown.out (by omega)
      cases hv2
      have hgl : ∀ i, i < 3 → ∃ u, farCell W g b (j * 3 + i) = some u := fun i hi => by
        have hq : j * 3 + i < (markCells k (j * 3) ++ cs.drop (j * 3)).length := by rw [List.length_append, markCells_len, List.length_drop, HL.out]; omega
        exact ⟨_, hc _ _ (List.getElem?_eq_getElem hq)⟩
      obtain ⟨u0, hu0⟩ := hgl 0 (by omega)
      have hf0 := hf (j * 3)
      obtain ⟨u1, hu1⟩ := hgl 1 (by omega)
      have hf1 := hf (j * 3 + 1)
      obtain ⟨u2, hu2⟩ := hgl 2 (by omega)
      have hf2 := hf (j * 3 + 2)
      clear hf
      simp only [Nat.add_zero] at hu0
      clear hc hgl
      go_wp2
      go_roundw
      case rel =>
        refine ⟨j + 1, by omega, by go_num, by first | go_num | (congr 1; omega), by (repeat (first | with_reducible exact Bel.refl _ | with_reducible assumption | apply Bel.ext | apply Bel.alloc | apply Bel.drew | exact Bel.refl _ | refine Bel.set ?_ (by first | (simp; done) | (simp [go_sem]; done) | omega) _)), Lib.hid ?_, Lib.hid ?_⟩
        · exact grown_trans (grown_trans (grown_trans (hg.out) (set_grown _ _ _ _)) (set_grown _ _ _ _)) (set_grown _ _ _ _)
        · have ht : markCells k ((j + 1) * 3) ++ cs.drop ((j + 1) * 3) = (((markCells k (j * 3) ++ cs.drop (j * 3)).set (j * 3) (Value.int .i64 (k + ((j * 3 : Nat) : Int)))).set (j * 3 + 1) (Value.int .i64 (k + ((j * 3 + 1 : Nat) : Int)))).set (j * 3 + 2) (Value.int .i64 (k + ((j * 3 + 2 : Nat) : Int))) := by
            rw [set_mark k cs (j * 3) (by rw [HL.out]; omega), set_mark k cs (j * 3 + 1) (by rw [HL.out]; omega), set_mark k cs (j * 3 + 2) (by rw [HL.out]; omega)]
            rw [show (j + 1) * 3 = j * 3 + 3 from by omega]
          rw [ht]
          have hst := own_stored (own_stored (own_stored (hown.out) (j * 3) (Value.int .i64 (k + ((j * 3 : Nat) : Int)))) (j * 3 + 1) (Value.int .i64 (k + ((j * 3 + 1 : Nat) : Int)))) (j * 3 + 2) (Value.int .i64 (k + ((j * 3 + 2 : Nat) : Int)))
          simpa [Int.natCast_add, Int.natCast_mul, Int.add_assoc] using hst
      case measure => simp [intOf]; omega
    · go_wp2
      have hj' : j = n := by omega
      subst hj'
      rw [← HR.out]
      refine ⟨by simp, g, rfl, ?_, hg.out⟩
      have := hown.out
      rw [List.drop_of_length_le (by rw [HL.out]; exact Nat.le_refl _), List.append_nil] at this
      exact this
set_option maxHeartbeats 1000000 in
theorem heldModelS_c (v : Value) (B : Nat) (e : TypeId) (n : Nat) (k : Int) (w : World) (ho : w.ownsRow B e 3 v n (markCells k (n * 3))) (hn : n ≤ 1000000000) (h1 : 0 ≤ k) (h2 : k ≤ 1000000000000) :
    Calls Try.prog 43 #[v, .int .i64 k] w (Ret (.int .i64 (k + (n * 3 : Nat))) w) := by
  refine hide_ret fun r H => ?_
  have hrd : Rd cel3 w v ((List.range n).map fun (i : Nat) => (k + ((i * 3 : Nat) : Int), k + ((i * 3 + 1 : Nat) : Int), k + ((i * 3 + 2 : Nat) : Int))) := rd_of_row (B := B) (e := e) (by
    simp only [List.length_map, List.length_range]
    rw [show cel3.row ((List.range n).map fun (i : Nat) => (k + ((i * 3 : Nat) : Int), k + ((i * 3 + 1 : Nat) : Int), k + ((i * 3 + 2 : Nat) : Int))) = markCells k (n * 3) from row_marks3 k n]
    exact ho)
  obtain ⟨a, m, c, rfl, hs⟩ := hrd.sl
  have hm : m = n := by have := hs.len; simpa using this
  subst hm
  have hcap := hs.le; have hmax := hs.cap
  unfold maxLen at hmax
  go_enter Try.func43, Try.ntmps43
  go_wp2
  go_loopw [1, 5] (fun x i wr => ∃ j : Nat, j ≤ m ∧ i = .int .i64 j ∧ x = .int .i64 (k + (j * 3 : Nat)) ∧ ∃ g, wr = ext w g) (fun _ i _ => m - (intOf i).toNat)
  case atStart => exact ⟨0, Nat.zero_le _, rfl, by go_num, ext_ex (Bel.refl _)⟩
  case round =>
    obtain ⟨j, hj, rfl, rfl, g, rfl⟩ := hrel
    by_cases hlt : j < m
    · obtain ⟨b, off, rfl, hb1⟩ := hs.base hlt
      obtain ⟨x, y, z, hx, hc0, hc1, hc2⟩ := hs.at3 hlt
      have hx' : (x, y, z) = (k + ((j * 3 : Nat) : Int), k + ((j * 3 + 1 : Nat) : Int), k + ((j * 3 + 2 : Nat) : Int)) := by have := hx.out; simp only [List.getElem?_map, List.getElem?_range hlt, Option.map_some, Option.some.injEq] at this; exact this.symm
      simp only [Prod.mk.injEq] at hx'
      obtain ⟨rfl, rfl, rfl⟩ := hx'
      have hne0 : (k + ((j * 3 : Nat) : Int) != k + ((j * 3 : Nat) : Int)) = false := by first | (simp; done) | (simp; omega)
      have hne1 : (k + ((j * 3 + 1 : Nat) : Int) != k + ((j * 3 : Nat) : Int) + 1) = false := by first | (simp; done) | (simp; omega)
      have hne2 : (k + ((j * 3 + 2 : Nat) : Int) != k + ((j * 3 : Nat) : Int) + 1 + 1) = false := by first | (simp; done) | (simp; omega)
      go_wp2_with (fail)
      all_goals (try ((refine region_ext (by kernel_rfl) (by kernel_rfl) ?_; (repeat (go_big_quiet_step (fail))); refine wpQuiet_nil ?_; rintro _ ⟨_, rfl⟩); go_wp2_with (fail)))
      go_roundw
      case rel => exact ⟨j + 1, by omega, by go_num, by first | go_num | (congr 1; omega), ext_ex (by (repeat (first | with_reducible exact Bel.refl _ | with_reducible assumption | apply Bel.ext | apply Bel.alloc | apply Bel.drew | exact Bel.refl _ | refine Bel.set ?_ (by first | (simp; done) | (simp [go_sem]; done) | omega) _)) : Bel _ _)⟩
      case measure => simp [intOf]; omega
    · go_wp2_with (fail)
      all_goals (try ((refine region_ext (by kernel_rfl) (by kernel_rfl) ?_; (repeat (go_big_quiet_step (fail))); refine wpQuiet_nil ?_; rintro _ ⟨_, rfl⟩); go_wp2_with (fail)))
      go_ret
      have hj' : j = m := by omega
      subst hj'
      refine Ret.mk ?_ (?_ : Bel _ _)
      · first | exact H.out | (rw [← H.out]; simp)
      · (repeat (first | with_reducible exact Bel.refl _ | with_reducible assumption | apply Bel.ext | apply Bel.alloc | apply Bel.drew | exact Bel.refl _ | refine Bel.set ?_ (by first | (simp; done) | (simp [go_sem]; done) | omega) _))
end Go.Proofs.Ytjdcdcfhnpephaa
