/- What the laws' helpers on slices of rules do: copying, comparing, counting. -/
import Derived.Test.YtdneffnnpjgnbaaRule
import Derived.Test.YtdneffnnpjgnbaaMem
namespace Go.Proofs.Ytdneffnnpjgnbaa
open Go.RowKit

theorem str_ne {c d : ByteArray} (h : ¬ c = d) : (c.toList == d.toList) = false := by
  refine beq_eq_false_iff_ne.2 fun e => h ?_
  rw [ByteArray.toList_eq, ByteArray.toList_eq] at e
  cases c; cases d; simp at e; simp [e]
abbrev RuleD := ByteArray × Int × Int × Int × Int × Int
def celR : Cel RuleD := ⟨6, fun x => [.string x.1, .int .i64 x.2.1, .int .i64 x.2.2.1, .int .i64 x.2.2.2.1, .int .i64 x.2.2.2.2.1, .int .i64 x.2.2.2.2.2], fun _ => rfl, by decide, fun _ u h => by simp at h; rcases h with rfl | rfl | rfl | rfl | rfl | rfl <;> rfl⟩
theorem Sl.atR {w : World} {b off n c_ : Nat} {xs : List RuleD} (h : Sl celR w (some ⟨b, off, none⟩) n c_ xs) {k : Nat} (hk : k < n) :
    ∃ c x1 x2 x3 x4 x5, Hid (xs[k]? = some (c, x1, x2, x3, x4, x5)) ∧ w.cell? ⟨b, off + k * 6, none⟩ = some (Value.string c) ∧ w.cell? ⟨b, off + k * 6 + 1, none⟩ = some (Value.int .i64 x1) ∧ w.cell? ⟨b, off + k * 6 + 2, none⟩ = some (Value.int .i64 x2) ∧ w.cell? ⟨b, off + k * 6 + 3, none⟩ = some (Value.int .i64 x3) ∧ w.cell? ⟨b, off + k * 6 + 4, none⟩ = some (Value.int .i64 x4) ∧ w.cell? ⟨b, off + k * 6 + 5, none⟩ = some (Value.int .i64 x5) := by
  obtain ⟨⟨c, x1, x2, x3, x4, x5⟩, hx⟩ := h.get hk
  obtain ⟨b', off', ha, hb, hc⟩ := h.at_ (by omega)
  cases ha
  exact ⟨c, x1, x2, x3, x4, x5, hx, by simpa [celR] using hc k _ hx 0 _ rfl, by simpa [celR] using hc k _ hx 1 _ rfl, by simpa [celR] using hc k _ hx 2 _ rfl, by simpa [celR] using hc k _ hx 3 _ rfl, by simpa [celR] using hc k _ hx 4 _ rfl, by simpa [celR] using hc k _ hx 5 _ rfl⟩
/-- what is left behind counting a list of rules -/
def szL : Int → List RuleD → Int
  | l, [] => l
  | l, x :: r => if l < x.1.size then -1 else szL (l - x.1.size) r
def szAll (l : Int) (xs : List RuleD) : Int := if l < xs.length then -1 else szL (l - xs.length) xs
theorem szL_le : ∀ (xs : List RuleD) (l : Int), -1 ≤ l → szL l xs ≤ l ∧ -1 ≤ szL l xs
  | [], l, h => ⟨Int.le_refl _, h⟩
  | x :: r, l, h => by
    unfold szL
    split
    · omega
    · have := szL_le r (l - x.1.size) (by omega)
      omega
theorem szAll_le (xs : List RuleD) (l : Int) (h : 0 ≤ l) : szAll l xs ≤ l ∧ -1 ≤ szAll l xs ∧ (0 ≤ szAll l xs → xs.length ≤ l) := by
  unfold szAll
  split
  · omega
  · have := szL_le xs (l - xs.length) (by omega)
    omega
set_option maxHeartbeats 2000000 in
theorem eqRule_c (c : ByteArray) (x1 x2 x3 x4 x5 : Int) (d : ByteArray) (y1 y2 y3 y4 y5 : Int) (w : World) : Calls Try.prog 23 #[.agg #[.string c, .int .i64 x1, .int .i64 x2, .int .i64 x3, .int .i64 x4, .int .i64 x5], .agg #[.string d, .int .i64 y1, .int .i64 y2, .int .i64 y3, .int .i64 y4, .int .i64 y5]] w (Ret (.bool (decide ((c, x1, x2, x3, x4, x5) = (d, y1, y2, y3, y4, y5)))) w) := by
  refine hide_ret fun v H => ?_
  by_cases h0 : c = d
  · subst h0
    by_cases h1 : (x1, x2, x3, x4, x5) = (y1, y2, y3, y4, y5)
    · simp only [Prod.mk.injEq] at h1
      obtain ⟨rfl, rfl, rfl, rfl, rfl⟩ := h1
      rw [decide_eq_true rfl] at H
      go_enter Try.func23, Try.ntmps23
      go_wp2
      go_ret
      exact Ret.mk H.out (by (repeat (first | with_reducible exact Bel.refl _ | with_reducible assumption | apply Bel.ext | apply Bel.alloc | apply Bel.drew | exact Bel.refl _ | refine Bel.set ?_ (by first | (simp; done) | (simp [go_sem]; done) | omega) _)) : Bel _ _)
    · rw [decide_eq_false (by intro e; simp only [Prod.mk.injEq] at e; apply h1; simp only [Prod.mk.injEq]; exact e.2)] at H
      simp only [Prod.mk.injEq] at h1
      by_cases a1 : x1 = y1
      · subst a1
        by_cases a2 : x2 = y2
        · subst a2
          by_cases a3 : x3 = y3
          · subst a3
            by_cases a4 : x4 = y4
            · subst a4
              have a5 : ¬ x5 = y5 := fun e => h1 ⟨rfl, rfl, rfl, rfl, e⟩
              clear h1
              go_enter Try.func23, Try.ntmps23
              go_wp2
              go_ret
              exact Ret.mk H.out (by (repeat (first | with_reducible exact Bel.refl _ | with_reducible assumption | apply Bel.ext | apply Bel.alloc | apply Bel.drew | exact Bel.refl _ | refine Bel.set ?_ (by first | (simp; done) | (simp [go_sem]; done) | omega) _)) : Bel _ _)
            · clear h1
              go_enter Try.func23, Try.ntmps23
              go_wp2
              go_ret
              exact Ret.mk H.out (by (repeat (first | with_reducible exact Bel.refl _ | with_reducible assumption | apply Bel.ext | apply Bel.alloc | apply Bel.drew | exact Bel.refl _ | refine Bel.set ?_ (by first | (simp; done) | (simp [go_sem]; done) | omega) _)) : Bel _ _)
          · clear h1
            go_enter Try.func23, Try.ntmps23
            go_wp2
            go_ret
            exact Ret.mk H.out (by (repeat (first | with_reducible exact Bel.refl _ | with_reducible assumption | apply Bel.ext | apply Bel.alloc | apply Bel.drew | exact Bel.refl _ | refine Bel.set ?_ (by first | (simp; done) | (simp [go_sem]; done) | omega) _)) : Bel _ _)
        · clear h1
          go_enter Try.func23, Try.ntmps23
          go_wp2
          go_ret
          exact Ret.mk H.out (by (repeat (first | with_reducible exact Bel.refl _ | with_reducible assumption | apply Bel.ext | apply Bel.alloc | apply Bel.drew | exact Bel.refl _ | refine Bel.set ?_ (by first | (simp; done) | (simp [go_sem]; done) | omega) _)) : Bel _ _)
      · clear h1
        go_enter Try.func23, Try.ntmps23
        go_wp2
        go_ret
        exact Ret.mk H.out (by (repeat (first | with_reducible exact Bel.refl _ | with_reducible assumption | apply Bel.ext | apply Bel.alloc | apply Bel.drew | exact Bel.refl _ | refine Bel.set ?_ (by first | (simp; done) | (simp [go_sem]; done) | omega) _)) : Bel _ _)
  · rw [decide_eq_false (by intro e; simp only [Prod.mk.injEq] at e; exact h0 e.1)] at H
    have hl : (c.toList == d.toList) = false := str_ne h0
    go_enter Try.func23, Try.ntmps23
    go_wp2
    go_ret
    exact Ret.mk H.out (by (repeat (first | with_reducible exact Bel.refl _ | with_reducible assumption | apply Bel.ext | apply Bel.alloc | apply Bel.drew | exact Bel.refl _ | refine Bel.set ?_ (by first | (simp; done) | (simp [go_sem]; done) | omega) _)) : Bel _ _)
set_option maxHeartbeats 1000000 in
theorem eqRuleS_c (u v : Value) (xs ys : List RuleD) (w : World) (hu : Rd celR w u xs) (hv : Rd celR w v ys) :
    Calls Try.prog 11 #[u, v] w (Ret (.bool (decide (xs = ys))) w) := by
  refine hide_ret fun r H => ?_
  obtain ⟨a, n, cc, rfl, hs⟩ := hu.sl
  obtain ⟨a', n', cc', rfl, hs'⟩ := hv.sl
  have hcap := hs.le; have hmax := hs.cap; have hcap' := hs'.le; have hmax' := hs'.cap
  unfold maxLen at hmax hmax'
  by_cases hn : n = n'
  · subst hn
    have hb : ((n : Int) != n) = false := by simp
    go_enter Try.func11, Try.ntmps11
    go_wp2
    go_loopw [5] (fun i wr => ∃ k : Nat, k ≤ n ∧ i = .int .i64 k ∧ (∃ g, wr = ext w g) ∧ Hid (r = .bool (decide (xs.drop k = ys.drop k)))) (fun i _ => n - (intOf i).toNat)
    case atStart => exact ⟨0, Nat.zero_le _, rfl, ext_ex (Bel.refl _), Lib.hid (by rw [← H.out]; rfl)⟩
    case round =>
      obtain ⟨k, hk, rfl, ⟨g, rfl⟩, hr⟩ := hrel
      by_cases hlt : k < n
      · obtain ⟨b, off, rfl, hb1⟩ := hs.base hlt
        obtain ⟨b', off', rfl, hb2⟩ := hs'.base hlt
        obtain ⟨c, x1, x2, x3, x4, x5, hx, hc0, hc1, hc2, hc3, hc4, hc5⟩ := hs.atR hlt
        obtain ⟨d, y1, y2, y3, y4, y5, hy, hd0, hd1, hd2, hd3, hd4, hd5⟩ := hs'.atR hlt
        have HQ := Lib.hid (fun w => eqRule_c c x1 x2 x3 x4 x5 d y1 y2 y3 y4 y5 w)
        rcases hxy : decide ((c, x1, x2, x3, x4, x5) = (d, y1, y2, y3, y4, y5)) with _ | _
        · have Hne := Lib.hid (of_decide_eq_false hxy)
          rw [hxy] at HQ
          clear hxy
          go_wp2_with fail
          refine region_ext (by kernel_rfl) (by kernel_rfl) ?_
          repeat (go_big_quiet_step (first | (go_at_call 23; exact Calls.in_ret (HQ.out _))))
          refine wpQuiet_nil ?_
          rintro _ ⟨_, rfl⟩
          go_wp2
          go_ret
          refine Ret.mk ?_ (?_ : Bel _ _)
          · rw [hr.out, drop_cons_of hx.out, drop_cons_of hy.out]
            rw [decide_eq_false (fun e => Hne.out (List.cons.inj e).1)]; rfl
          · (repeat (first | with_reducible exact Bel.refl _ | with_reducible assumption | apply Bel.ext | apply Bel.alloc | apply Bel.drew | exact Bel.refl _ | refine Bel.set ?_ (by first | (simp; done) | (simp [go_sem]; done) | omega) _))
        · have Hne := Lib.hid (of_decide_eq_true hxy)
          rw [hxy] at HQ
          clear hxy
          go_wp2_with fail
          refine region_ext (by kernel_rfl) (by kernel_rfl) ?_
          repeat (go_big_quiet_step (first | (go_at_call 23; exact Calls.in_ret (HQ.out _))))
          refine wpQuiet_nil ?_
          rintro _ ⟨_, rfl⟩
          go_wp2
          go_roundw
          case rel =>
            refine ⟨k + 1, by omega, by go_num, ext_ex (by (repeat (first | with_reducible exact Bel.refl _ | with_reducible assumption | apply Bel.ext | apply Bel.alloc | apply Bel.drew | exact Bel.refl _ | refine Bel.set ?_ (by first | (simp; done) | (simp [go_sem]; done) | omega) _)) : Bel _ _), Lib.hid ?_⟩
            rw [hr.out, drop_cons_of hx.out, drop_cons_of hy.out, Hne.out]; simp
          case measure => simp [intOf]; omega
      · go_wp2_with (fail)
        all_goals (try ((refine region_ext (by kernel_rfl) (by kernel_rfl) ?_; (repeat (go_big_quiet_step (fail))); refine wpQuiet_nil ?_; rintro _ ⟨_, rfl⟩); go_wp2_with (fail)))
        go_ret
        refine Ret.mk ?_ (?_ : Bel _ _)
        · rw [hr.out, List.drop_of_length_le (by have := hs.len; omega), List.drop_of_length_le (by have := hs'.len; omega)]; simp
        · (repeat (first | with_reducible exact Bel.refl _ | with_reducible assumption | apply Bel.ext | apply Bel.alloc | apply Bel.drew | exact Bel.refl _ | refine Bel.set ?_ (by first | (simp; done) | (simp [go_sem]; done) | omega) _))
  · have hb : ((n : Int) != n') = true := by simp; omega
    go_enter Try.func11, Try.ntmps11
    go_wp2
    go_ret
    refine Ret.mk ?_ (?_ : Bel _ _)
    · rw [← H.out]; simp
      intro e; exact hn (by rw [hs.len, hs'.len, e])
    · (repeat (first | with_reducible exact Bel.refl _ | with_reducible assumption | apply Bel.ext | apply Bel.alloc | apply Bel.drew | exact Bel.refl _ | refine Bel.set ?_ (by first | (simp; done) | (simp [go_sem]; done) | omega) _))
set_option maxHeartbeats 1000000 in
theorem szRuleS_c (u : Value) (xs : List RuleD) (l : Int) (h1 : 0 ≤ l) (h2 : l ≤ 1000000000000) (hz : ∀ x ∈ xs, x.1.size ≤ maxLen) (w : World) (hu : Rd celR w u xs) :
    Calls Try.prog 7 #[u, .int .i64 l] w (Ret (.int .i64 (szAll l xs)) w) := by
  refine hide_ret fun v H => ?_
  obtain ⟨a, n, cc, rfl, hs⟩ := hu.sl
  have hcap := hs.le; have hmax := hs.cap
  unfold maxLen at hmax
  have HL := Lib.hid hs.len
  have HZ := Lib.hid hz
  clear hz
  unfold szAll at H
  rw [← HL.out] at H
  by_cases h : l < n
  · rw [if_pos h] at H
    go_enter Try.func7, Try.ntmps7
    go_wp2
    go_ret
    exact Ret.mk H.out (by (repeat (first | with_reducible exact Bel.refl _ | with_reducible assumption | apply Bel.ext | apply Bel.alloc | apply Bel.drew | exact Bel.refl _ | refine Bel.set ?_ (by first | (simp; done) | (simp [go_sem]; done) | omega) _)) : Bel _ _)
  · rw [if_neg h] at H
    have hn0 : ¬ (l - n < 0) := by omega
    go_enter Try.func7, Try.ntmps7
    go_wp2
    go_loopw [1, 5] (fun x i wr => ∃ (k : Nat) (y : Int), k ≤ n ∧ i = .int .i64 k ∧ x = .int .i64 y ∧ 0 ≤ y ∧ y ≤ 1000000000000 ∧ (∃ g, wr = ext w g) ∧ Hid (v = .int .i64 (szL y (xs.drop k)))) (fun _ i _ => n - (intOf i).toNat)
    case atStart => exact ⟨0, l - n, Nat.zero_le _, rfl, rfl, by omega, by omega, ext_ex (Bel.refl _), Lib.hid (by rw [← H.out]; rfl)⟩
    case round =>
      obtain ⟨k, y, hk, rfl, rfl, y1, y2, ⟨g, rfl⟩, hr⟩ := hrel
      by_cases hlt : k < n
      · obtain ⟨b, off, rfl, hb1⟩ := hs.base hlt
        obtain ⟨c, x1, x2, x3, x4, x5, hx, hc0, hc1, hc2, hc3, hc4, hc5⟩ := hs.atR hlt
        have hzc := HZ.out _ (List.mem_of_getElem? hx.out)
        have HQ := Lib.hid (fun w => szRule_c c x1 x2 x3 x4 x5 y y1 y2 hzc w)
        unfold maxLen at hzc
        have HR := Lib.hid (hr.out.trans (by rw [drop_cons_of hx.out]; rfl : _ = Value.int .i64 (if y < (c.size : Int) then -1 else szL (y - (c.size : Int)) (xs.drop (k + 1)))))
        clear hr
        by_cases hyc : y < (c.size : Int)
        · rw [if_pos hyc] at HQ HR
          go_wp2_with (first | (go_at_call 12; refine Calls.mono (HQ.out _) ?_; rintro ee ww ⟨rfl, _, rfl⟩))
          go_ret
          exact Ret.mk HR.out.symm (by (repeat (first | with_reducible exact Bel.refl _ | with_reducible assumption | apply Bel.ext | apply Bel.alloc | apply Bel.drew | exact Bel.refl _ | refine Bel.set ?_ (by first | (simp; done) | (simp [go_sem]; done) | omega) _)) : Bel _ _)
        · rw [if_neg hyc] at HQ HR
          have hyc2 : ¬ (y - (c.size : Int) < 0) := by omega
          go_wp2_with (first | (go_at_call 12; refine Calls.mono (HQ.out _) ?_; rintro ee ww ⟨rfl, _, rfl⟩))
          go_roundw
          case rel => exact ⟨k + 1, y - c.size, by omega, by go_num, rfl, by omega, by omega, ext_ex (by (repeat (first | with_reducible exact Bel.refl _ | with_reducible assumption | apply Bel.ext | apply Bel.alloc | apply Bel.drew | exact Bel.refl _ | refine Bel.set ?_ (by first | (simp; done) | (simp [go_sem]; done) | omega) _)) : Bel _ _), HR⟩
          case measure => simp [intOf]; omega
      · have hr2 := hr.out
        rw [List.drop_of_length_le (by have := hs.len; omega)] at hr2
        have HV := Lib.hid hr2
        clear hr2 hr
        go_wp2
        go_ret
        exact Ret.mk HV.out.symm (by (repeat (first | with_reducible exact Bel.refl _ | with_reducible assumption | apply Bel.ext | apply Bel.alloc | apply Bel.drew | exact Bel.refl _ | refine Bel.set ?_ (by first | (simp; done) | (simp [go_sem]; done) | omega) _)) : Bel _ _)
theorem appRule : AppF Try.prog 25 35 6 56 := appF_of (z := .agg #[.string ByteArray.empty, .int .i64 0, .int .i64 0, .int .i64 0, .int .i64 0, .int .i64 0]) Try.underlying25 (by kernel_rfl) rfl
set_option maxHeartbeats 4000000 in
theorem toRuleS_c (u : Value) (xs : List RuleD) (w : World) (hu : Rd celR w u xs) (hn : xs.length ≤ 1000000000) :
    Calls Try.prog 9 #[u] w (RetRow 35 6 (fun v => v) xs.length (celR.row xs) w) := by
  generalize hR : RetRow _ _ _ _ _ w = R
  have HR := Lib.hid hR
  clear hR
  obtain ⟨a, n, cc, rfl, hs⟩ := hu.sl
  have hcap := hs.le; have hmax := hs.cap
  unfold maxLen at hmax
  have hl := hs.len
  have HL := Lib.hid hl
  rw [← hl] at hn
  clear hl
  go_enter Try.func9, Try.ntmps9
  go_wp2_with (at_make; refine wpList_make_ext _ rfl _ _ 25 35 6 56 rfl appRule n rfl rfl (by omega) (by omega) ?_; intro g0 cs hcs hown)
  have HC := Lib.hid hcs
  clear hcs
  have HO := Lib.hid hown
  clear hown
  go_loopw [4] (fun i wr => ∃ j : Nat, j ≤ n ∧ i = .int .i64 j ∧ Bel w wr ∧ Hid (wr.ownsRow w.heap.size 35 6 (.slice (some ⟨w.heap.size, 0, none⟩) n n) n (celR.row (xs.take j) ++ cs.drop (j * 6)))) (fun i _ => n - (intOf i).toNat)
  case atStart => exact ⟨0, Nat.zero_le _, rfl, (Bel.refl _).ext _, Lib.hid (by simpa [Cel.row] using HO.out)⟩
  case round =>
    obtain ⟨j, hj, rfl, hbel, hown⟩ := hrel
    obtain ⟨g, rfl⟩ := ext_ex hbel
    by_cases hlt : j < n
    · obtain ⟨b, off, rfl, hb1⟩ := hs.base hlt
      obtain ⟨c, x1, x2, x3, x4, x5, hx, hc0, hc1, hc2, hc3, hc4, hc5⟩ := hs.atR hlt
      obtain ⟨bb, c3, hv2, hbb1, hbb2, -, -, hc, hf⟩ := own_far hown.out (by omega)
      cases hv2
      have hA : (celR.row (xs.take j)).length = j * 6 := by rw [Cel.row_len, List.length_take, Nat.min_eq_left (by rw [← HL.out]; omega)]; rfl
      have hgl : ∀ i, i < 6 → ∃ u, farCell w g w.heap.size (j * 6 + i) = some u := fun i hi => by
        have hq : j * 6 + i < (celR.row (xs.take j) ++ cs.drop (j * 6)).length := by rw [List.length_append, hA, List.length_drop, HC.out]; omega
        exact ⟨_, hc _ _ (List.getElem?_eq_getElem hq)⟩
      obtain ⟨u0, hu0⟩ := hgl 0 (by omega)
      have hf0 := hf (j * 6)
      obtain ⟨u1, hu1⟩ := hgl 1 (by omega)
      have hf1 := hf (j * 6 + 1)
      obtain ⟨u2, hu2⟩ := hgl 2 (by omega)
      have hf2 := hf (j * 6 + 2)
      obtain ⟨u3, hu3⟩ := hgl 3 (by omega)
      have hf3 := hf (j * 6 + 3)
      obtain ⟨u4, hu4⟩ := hgl 4 (by omega)
      have hf4 := hf (j * 6 + 4)
      obtain ⟨u5, hu5⟩ := hgl 5 (by omega)
      have hf5 := hf (j * 6 + 5)
      clear hf
      simp only [Nat.add_zero] at hu0
      clear hc hgl
      have hbe := hbb1
      go_wp2_with (go_at_call 14; refine (toRule_c _ _ _ _ _ _ _).mono ?_; rintro e w' ⟨rfl, _, rfl⟩)
      go_roundw
      case rel =>
        refine ⟨j + 1, by omega, by go_num, by (repeat (first | with_reducible exact Bel.refl _ | with_reducible assumption | with_reducible apply Bel.ext | with_reducible apply Bel.alloc | with_reducible apply Bel.drew | ((with_reducible refine Bel.set ?_ ?_ _); rotate_left; (focus (first | omega | (simp; done) | (simp [go_sem]; done) | (dsimp only; omega)))))), Lib.hid ?_⟩
        have ht : celR.row (xs.take (j + 1)) ++ cs.drop ((j + 1) * 6) = ((((((celR.row (xs.take j) ++ cs.drop (j * 6)).set (j * 6) (Value.string c)).set (j * 6 + 1) (Value.int .i64 x1)).set (j * 6 + 2) (Value.int .i64 x2)).set (j * 6 + 3) (Value.int .i64 x3)).set (j * 6 + 4) (Value.int .i64 x4)).set (j * 6 + 5) (Value.int .i64 x5) := by
          rw [take_snoc_of hx.out, Cel.row_append, Cel.row_one]
          rw [set_next (celR.row (xs.take j)) cs (j * 6) (Value.string c) (by simp [hA]) (by rw [HC.out]; omega), set_next (celR.row (xs.take j) ++ [Value.string c]) cs (j * 6 + 1) (Value.int .i64 x1) (by simp [hA]) (by rw [HC.out]; omega), set_next (celR.row (xs.take j) ++ [Value.string c] ++ [Value.int .i64 x1]) cs (j * 6 + 2) (Value.int .i64 x2) (by simp [hA]) (by rw [HC.out]; omega), set_next (celR.row (xs.take j) ++ [Value.string c] ++ [Value.int .i64 x1] ++ [Value.int .i64 x2]) cs (j * 6 + 3) (Value.int .i64 x3) (by simp [hA]) (by rw [HC.out]; omega), set_next (celR.row (xs.take j) ++ [Value.string c] ++ [Value.int .i64 x1] ++ [Value.int .i64 x2] ++ [Value.int .i64 x3]) cs (j * 6 + 4) (Value.int .i64 x4) (by simp [hA]) (by rw [HC.out]; omega), set_next (celR.row (xs.take j) ++ [Value.string c] ++ [Value.int .i64 x1] ++ [Value.int .i64 x2] ++ [Value.int .i64 x3] ++ [Value.int .i64 x4]) cs (j * 6 + 5) (Value.int .i64 x5) (by simp [hA]) (by rw [HC.out]; omega)]
          rw [show (j + 1) * 6 = j * 6 + 6 from by omega]
          simp [celR]
        rw [ht]
        exact own_stored (own_stored (own_stored (own_stored (own_stored (own_stored (own_bel hown.out (by (repeat (first | with_reducible exact Bel.refl _ | with_reducible assumption | with_reducible apply Bel.ext | with_reducible apply Bel.alloc | with_reducible apply Bel.drew | ((with_reducible refine Bel.set ?_ ?_ _); rotate_left; (focus (first | omega | (simp; done) | (simp [go_sem]; done) | (dsimp only; omega)))))))) (j * 6) (Value.string c)) (j * 6 + 1) (Value.int .i64 x1)) (j * 6 + 2) (Value.int .i64 x2)) (j * 6 + 3) (Value.int .i64 x3)) (j * 6 + 4) (Value.int .i64 x4)) (j * 6 + 5) (Value.int .i64 x5)
      case measure => simp [intOf]; omega
    · go_wp2
      have hj' : j = n := by omega
      subst hj'
      rw [← HR.out]
      refine RetRow.mk' rfl hbel ?_
      have := hown.out
      rw [List.drop_of_length_le (by rw [HC.out]; exact Nat.le_refl _), List.append_nil, List.take_of_length_le (by rw [HL.out]; exact Nat.le_refl _)] at this
      rw [← HL.out]; exact this
end Go.Proofs.Ytdneffnnpjgnbaa
