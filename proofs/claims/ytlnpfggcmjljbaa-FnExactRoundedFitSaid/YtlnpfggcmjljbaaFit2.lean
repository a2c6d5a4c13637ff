/- The line with the least squares through minima: what the reference returns. -/
import Derived.Test.YtlnpfggcmjljbaaFit
import Derived.Test.YtlnpfggcmjljbaaMem
namespace Go.Proofs.Ytlnpfggcmjljbaa
open Go.RowKit

theorem crossP_take (v : Int × Int → Int) (y : Int × Int) {xs : List (Int × Int)} {k : Nat} {x : Int × Int} (h : xs[k]? = some x) : crossP v y (xs.take (k + 1)) = crossP v y (xs.take k) + (y.1 - x.1) * (v y - v x) := by
  unfold crossP; rw [sumF_take _ h]
theorem pairP_take (v : Int × Int → Int) {xs : List (Int × Int)} {k : Nat} {x : Int × Int} (h : xs[k]? = some x) : pairP v (xs.take (k + 1)) = pairP v (xs.take k) + crossP v x (xs.take k) := by
  rw [take_snoc_of h, pairP_snoc]
theorem line_bd {xs : List (Int × Int)} (hz : ∀ (k : Nat) (x : Int × Int), xs[k]? = some x → -10000 ≤ x.1 ∧ x.1 ≤ 10000 ∧ 0 ≤ x.2 ∧ x.2 ≤ 10000000) (hn : xs.length ≤ 50) (i : Nat) (x : Int × Int) (hx : xs[i]? = some x) (k : Nat) (hk : k ≤ i) :
    -255000000000000 ≤ pairP (·.2) (xs.take i) + crossP (·.2) x (xs.take k) ∧ pairP (·.2) (xs.take i) + crossP (·.2) x (xs.take k) ≤ 255000000000000 ∧
    -510000000000 ≤ pairP (·.1) (xs.take i) + crossP (·.1) x (xs.take k) ∧ pairP (·.1) (xs.take i) + crossP (·.1) x (xs.take k) ≤ 510000000000 := by
  have hi : i < xs.length := (List.getElem?_eq_some_iff.1 hx).1
  have two : ∀ (a b : Int × Int), -10000 ≤ a.1 ∧ a.1 ≤ 10000 ∧ 0 ≤ a.2 ∧ a.2 ≤ 10000000 → -10000 ≤ b.1 ∧ b.1 ≤ 10000 ∧ 0 ≤ b.2 ∧ b.2 ≤ 10000000 →
      (-200000000000 ≤ (a.1 - b.1) * (a.2 - b.2) ∧ (a.1 - b.1) * (a.2 - b.2) ≤ 200000000000) ∧ (-400000000 ≤ (a.1 - b.1) * (a.1 - b.1) ∧ (a.1 - b.1) * (a.1 - b.1) ≤ 400000000) := by
    intro a b ha hb
    have e1 := mul_in' (A := 20000) (B := 10000000) (a := a.1 - b.1) (b := a.2 - b.2)
    have e2 := mul_in' (A := 20000) (B := 10000000) (a := a.1 - b.1) (b := b.2 - a.2)
    have e3 := mul_in' (A := 20000) (B := 20000) (a := a.1 - b.1) (b := a.1 - b.1)
    have e4 := mul_in' (A := 20000) (B := 20000) (a := b.1 - a.1) (b := b.1 - a.1)
    have f1 : (a.1 - b.1) * (b.2 - a.2) = -((a.1 - b.1) * (a.2 - b.2)) := by rw [← Int.mul_neg]; congr 1; omega
    have f2 : (b.1 - a.1) * (b.1 - a.1) = (a.1 - b.1) * (a.1 - b.1) := by rw [show b.1 - a.1 = -(a.1 - b.1) from by omega, Int.neg_mul_neg]
    constructor
    · rcases Int.le_total b.2 a.2 with h | h
      · exact e1 (by omega) (by omega) (by omega) (by omega)
      · have := e2 (by omega) (by omega) (by omega) (by omega); omega
    · rcases Int.le_total b.1 a.1 with h | h
      · exact e3 (by omega) (by omega) (by omega) (by omega)
      · have := e4 (by omega) (by omega) (by omega) (by omega); omega
  have ht := tri_le (show i ≤ 50 by omega)
  have p1 := pairP_bd (·.2) xs (-200000000000) 200000000000 (fun i j x y _ hx hy => (two y x (hz j y hy) (hz i x hx)).1) i (by omega)
  have p2 := pairP_bd (·.1) xs (-400000000) 400000000 (fun i j x y _ hx hy => (two y x (hz j y hy) (hz i x hx)).2) i (by omega)
  have hm : ∀ z ∈ xs.take k, -10000 ≤ z.1 ∧ z.1 ≤ 10000 ∧ 0 ≤ z.2 ∧ z.2 ≤ 10000000 := fun z hm => by
    obtain ⟨j, hj⟩ := List.mem_iff_getElem?.1 (List.mem_of_mem_take hm)
    exact hz j z hj
  have e : (xs.take k).length = k := by rw [List.length_take]; omega
  have c1 := sumF_bd (fun z => (x.1 - z.1) * (x.2 - z.2)) (-200000000000) 200000000000 (xs.take k) (fun z hzm => (two x z (hz i x hx) (hm z hzm)).1)
  have c2 := sumF_bd (fun z => (x.1 - z.1) * (x.1 - z.1)) (-400000000) 400000000 (xs.take k) (fun z hzm => (two x z (hz i x hx) (hm z hzm)).2)
  rw [e] at c1 c2
  have c3 : -200000000000 * (k : Int) ≤ crossP (·.2) x (xs.take k) ∧ crossP (·.2) x (xs.take k) ≤ 200000000000 * (k : Int) := c1
  have c4 : -400000000 * (k : Int) ≤ crossP (·.1) x (xs.take k) ∧ crossP (·.1) x (xs.take k) ≤ 400000000 * (k : Int) := c2
  clear c1 c2
  generalize crossP (·.2) x (xs.take k) = C at *
  generalize crossP (·.1) x (xs.take k) = D at *
  omega
set_option maxHeartbeats 2000000 in
theorem l02Sum_c (u : Value) (rs : List Int) (w : World) (hu : Rd celI w u rs) (hz : ∀ k, k ≤ rs.length → -1000000000000 ≤ (rs.take k).sum ∧ (rs.take k).sum ≤ 1000000000000) :
    Calls Try.prog 82 #[u] w (Ret (.int .i64 rs.sum) w) := by
  refine hide_ret fun v H => ?_
  obtain ⟨a, n, c, rfl, hs⟩ := hu.sl
  have hcap := hs.le; have hmax := hs.cap
  unfold maxLen at hmax
  have HL := Lib.hid hs.len
  have HZ := Lib.hid hz
  clear hz
  go_enter Try.func82, Try.ntmps82
  go_wp2
  go_loopw [3, 4] (fun t i wr => ∃ k : Nat, k ≤ n ∧ i = .int .i64 k ∧ t = .int .i64 (rs.take k).sum ∧ (∃ g, wr = ext w g)) (fun _ i _ => n - (intOf i).toNat)
  case atStart => exact ⟨0, Nat.zero_le _, rfl, rfl, ext_ex (Bel.refl _)⟩
  case round =>
    obtain ⟨k, hk, rfl, rfl, ⟨g, rfl⟩⟩ := hrel
    by_cases hlt : k < n
    · obtain ⟨b, off, rfl, hb⟩ := hs.base hlt
      obtain ⟨x, hx, hc0⟩ := hs.at1 hlt
      have hb9 := HZ.out (k + 1) (by rw [← HL.out]; omega)
      have E1 := Lib.hid (show (rs.take (k + 1)).sum = (rs.take k).sum + x by rw [take_snoc_of hx.out]; simp)
      rw [E1.out] at hb9
      generalize (rs.take k).sum = C at *
      go_wp2_with (fail)
      all_goals (try ((refine region_ext (by kernel_rfl) (by kernel_rfl) ?_; (repeat (go_big_quiet_step (fail))); refine wpQuiet_nil ?_; rintro _ ⟨_, rfl⟩); go_wp2_with (fail)))
      go_roundw
      case rel => exact ⟨k + 1, by omega, by go_num, by rw [E1.out], ext_ex (by (repeat (first | exact Bel.refl _ | apply Bel.ext | apply Bel.alloc | apply Bel.drew | refine Bel.set ?_ (by first | (simp; done) | (simp [go_sem]; done) | omega) _)) : Bel _ _)⟩
      case measure => simp [intOf]; omega
    · go_wp2
      go_ret
      refine Ret.mk ?_ (?_ : Bel _ _)
      · rw [← H.out, List.take_of_length_le (by rw [← HL.out]; omega)]; rfl
      · (repeat (first | exact Bel.refl _ | apply Bel.ext | apply Bel.alloc | apply Bel.drew | refine Bel.set ?_ (by first | (simp; done) | (simp [go_sem]; done) | omega) _))
set_option maxHeartbeats 8000000 in
theorem l08Line_c (u v : Value) (xs : List (Int × Int)) (w : World) (hu : Rd celI w u (xs.map (·.1))) (hv : Rd celI w v (xs.map (·.2))) (hz : ∀ (k : Nat) (x : Int × Int), xs[k]? = some x → -10000 ≤ x.1 ∧ x.1 ≤ 10000 ∧ 0 ≤ x.2 ∧ x.2 ≤ 10000000) (hn : xs.length ≤ 50) :
    Calls Try.prog 81 #[u, v] w (Ret (.tuple #[.int .i64 (fitN xs), .int .i64 (fitD xs)]) w) := by
  refine hide_ret fun r H => ?_
  obtain ⟨a, n, c, rfl, hs⟩ := hu.sl
  obtain ⟨a', n', c', rfl, hs'⟩ := hv.sl
  have hcap := hs.le; have hmax := hs.cap; have hcap' := hs'.le; have hmax' := hs'.cap
  unfold maxLen at hmax hmax'
  have hl : n = xs.length := by have := hs.len; simpa using this
  have hnn : n' = n := by have := hs'.len; simp at this; omega
  subst hnn
  have HL := Lib.hid hl
  rw [← hl] at hn
  have HB := Lib.hid (fun i x hx k hk => line_bd hz (by rw [← hl]; exact hn) i x hx k hk)
  have HZ := Lib.hid hz
  clear hl hz
  go_enter Try.func81, Try.ntmps81
  go_wp2
  go_loopw [6, 7, 8] (fun p q i wr => ∃ k : Nat, k ≤ n' ∧ i = .int .i64 k ∧ p = .int .i64 (pairP (·.2) (xs.take k)) ∧ q = .int .i64 (pairP (·.1) (xs.take k)) ∧ (∃ g, wr = ext w g)) (fun _ _ i _ => n' - (intOf i).toNat)
  case atStart => exact ⟨0, Nat.zero_le _, rfl, by simp [pairP, sumF], by simp [pairP, sumF], ext_ex (Bel.refl _)⟩
  case round =>
    obtain ⟨i, hi, rfl, rfl, rfl, ⟨g, rfl⟩⟩ := hrel
    by_cases hlt : i < n'
    · obtain ⟨b, off, rfl, hb⟩ := hs.base hlt
      obtain ⟨b', off', rfl, hb'⟩ := hs'.base hlt
      obtain ⟨x, hx, hc0⟩ := hs.at1 hlt
      obtain ⟨y, hy, hd0⟩ := hs'.at1 hlt
      have hxy : xs[i]? = some (x, y) := by
        have h1 := hx.out; have h2 := hy.out
        simp only [List.getElem?_map, Option.map_eq_some_iff] at h1 h2
        obtain ⟨z, hz, e1⟩ := h1
        obtain ⟨z', hz', e2⟩ := h2
        rw [hz] at hz'; cases hz'
        rw [hz, ← e1, ← e2]
      obtain ⟨x1, x2, y1, y2⟩ := HZ.out i _ hxy
      simp only at x1 x2 y1 y2
      have HXY := Lib.hid hxy
      have HB2 := Lib.hid (fun k hk => HB.out i _ hxy k hk)
      clear hxy
      go_wp2
      go_loopw [6, 7, 9] (fun p q j wr => ∃ k : Nat, k ≤ i ∧ j = .int .i64 k ∧ p = .int .i64 (pairP (·.2) (xs.take i) + crossP (·.2) (x, y) (xs.take k)) ∧ q = .int .i64 (pairP (·.1) (xs.take i) + crossP (·.1) (x, y) (xs.take k)) ∧ (∃ g, wr = ext w g)) (fun _ _ j _ => i - (intOf j).toNat)
      case atStart => exact ⟨0, Nat.zero_le _, rfl, by simp [crossP, sumF], by simp [crossP, sumF], ext_ex (by (repeat (first | exact Bel.refl _ | apply Bel.ext | apply Bel.alloc | apply Bel.drew | refine Bel.set ?_ (by first | (simp; done) | (simp [go_sem]; done) | omega) _)) : Bel _ _)⟩
      case round =>
        obtain ⟨k, hk, rfl, rfl, rfl, ⟨g', rfl⟩⟩ := hrel
        by_cases hlt2 : k < i
        · obtain ⟨x', hx', he0⟩ := hs.at1 (show k < n' by omega)
          obtain ⟨y', hy', hf0⟩ := hs'.at1 (show k < n' by omega)
          have hxy' : xs[k]? = some (x', y') := by
            have h1 := hx'.out; have h2 := hy'.out
            simp only [List.getElem?_map, Option.map_eq_some_iff] at h1 h2
            obtain ⟨z, hz, e1⟩ := h1
            obtain ⟨z', hz', e2⟩ := h2
            rw [hz] at hz'; cases hz'
            rw [hz, ← e1, ← e2]
          obtain ⟨x3, x4, y3, y4⟩ := HZ.out k _ hxy'
          simp only at x3 x4 y3 y4
          have hbk := HB2.out k (by omega)
          have hbk1 := HB2.out (k + 1) (by omega)
          have E1 := Lib.hid (crossP_take (·.2) (x, y) hxy')
          have E2 := Lib.hid (crossP_take (·.1) (x, y) hxy')
          rw [E1.out, E2.out] at hbk1
          clear hxy'
          generalize pairP (·.2) (xs.take i) = P at *
          generalize pairP (·.1) (xs.take i) = Q at *
          generalize crossP (·.2) (x, y) (xs.take k) = C at *
          generalize crossP (·.1) (x, y) (xs.take k) = D at *
          simp only at hbk1
          obtain ⟨p1, p2, p3, p4⟩ := hbk
          obtain ⟨q1, q2, q3, q4⟩ := hbk1
          have v1 : IntKind.i64.wrap (x - x') = x - x' := IntWalk.i64_in _ (by omega)
          have v2 : IntKind.i64.wrap (y - y') = y - y' := IntWalk.i64_in _ (by omega)
          have v3 : IntKind.i64.wrap ((x - x') * (y - y')) = (x - x') * (y - y') := IntWalk.i64_in _ (by omega)
          have v4 : IntKind.i64.wrap (P + C + (x - x') * (y - y')) = P + (C + (x - x') * (y - y')) := by rw [Int.add_assoc]; exact IntWalk.i64_in _ (by omega)
          have v5 : IntKind.i64.wrap ((x - x') * (x - x')) = (x - x') * (x - x') := IntWalk.i64_in _ (by omega)
          have v6 : IntKind.i64.wrap (Q + D + (x - x') * (x - x')) = Q + (D + (x - x') * (x - x')) := by rw [Int.add_assoc]; exact IntWalk.i64_in _ (by omega)
          clear p1 p2 p3 p4 q1 q2 q3 q4
          go_wp2_with fail
          refine region_ext (by kernel_rfl) (by kernel_rfl) ?_
          repeat (go_big_quiet_step (fail))
          refine wpQuiet_nil ?_
          rintro _ ⟨_, rfl⟩
          go_wp2_with fail
          refine region_ext (by kernel_rfl) (by kernel_rfl) ?_
          repeat (go_big_quiet_step (fail))
          refine wpQuiet_nil ?_
          rintro _ ⟨_, rfl⟩
          go_wp2
          go_roundw
          case rel => exact ⟨k + 1, by omega, by go_num, by rw [E1.out], by rw [E2.out], ext_ex (by (repeat (first | exact Bel.refl _ | apply Bel.ext | apply Bel.alloc | apply Bel.drew | refine Bel.set ?_ (by first | (simp; done) | (simp [go_sem]; done) | omega) _)) : Bel _ _)⟩
          case measure => simp [intOf]; omega
        · have hk' : k = i := by omega
          subst hk'
          have E1 := Lib.hid (pairP_take (·.2) HXY.out)
          have E2 := Lib.hid (pairP_take (·.1) HXY.out)
          go_wp2
          go_roundw
          case rel => exact ⟨k + 1, by omega, by go_num, by rw [E1.out], by rw [E2.out], ext_ex (by (repeat (first | exact Bel.refl _ | apply Bel.ext | apply Bel.alloc | apply Bel.drew | refine Bel.set ?_ (by first | (simp; done) | (simp [go_sem]; done) | omega) _)) : Bel _ _)⟩
          case measure => simp [intOf]; omega
    · go_wp2
      go_ret2
      refine Ret.mk ?_ (?_ : Bel _ _)
      · rw [← H.out, List.take_of_length_le (by rw [← HL.out]; omega)]; rfl
      · (repeat (first | exact Bel.refl _ | apply Bel.ext | apply Bel.alloc | apply Bel.drew | refine Bel.set ?_ (by first | (simp; done) | (simp [go_sem]; done) | omega) _))
end Go.Proofs.Ytlnpfggcmjljbaa
