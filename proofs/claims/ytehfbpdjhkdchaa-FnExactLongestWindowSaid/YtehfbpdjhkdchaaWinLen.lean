/- The length of windows and the longest one: what both sides return. -/
import Derived.Test.YtehfbpdjhkdchaaWindows
import Derived.Test.YtehfbpdjhkdchaaMaxGo
namespace Go.Proofs.Ytehfbpdjhkdchaa
open Go.RowKit

theorem getD_of {α : Type} {xs : List α} {k : Nat} {x d : α} (h : xs[k]? = some x) : xs.getD k d = x := by simp [List.getD, h]
def winKeys (xs : List (Int × Int)) : List Int := xs.map fun x => x.2 - x.1
theorem lenKeys (xs : List (Int × Int)) : (winKeys xs).length = xs.length := by simp [winKeys]
theorem keys_get {xs : List (Int × Int)} {k : Nat} {x y : Int} (h : xs[k]? = some (x, y)) : (winKeys xs)[k]? = some (y - x) := by simp [winKeys, h]
def longI (xs : List (Int × Int)) : Int × Int :=
  if !windowsB xs then (0, 1) else if xs.length = 0 then (0, 3) else ((maxGo (winKeys xs) 0 0 (winKeys xs) : Nat), 0)
def lenW (xs : List (Int × Int)) : Int := (xs.map fun x => x.2 - x.1 + 1).sum
theorem lenW_take {xs : List (Int × Int)} {k : Nat} {x y : Int} (h : xs[k]? = some (x, y)) : lenW (xs.take (k + 1)) = lenW (xs.take k) + (y - x + 1) := by
  rw [take_snoc_of h]; simp [lenW]
theorem lenW_bd (xs : List (Int × Int)) (h : windowsB xs = true) : ∀ k, k ≤ xs.length → 0 ≤ lenW (xs.take k) ∧ lenW (xs.take k) ≤ 20000000 * (k : Int)
  | 0, _ => by simp [lenW]
  | k + 1, hk => by
    have ih := lenW_bd xs h k (by omega)
    have hx : xs[k]? = some (xs[k].1, xs[k].2) := List.getElem?_eq_getElem (by omega)
    have := windowsB_get h hx
    dsimp only at this
    rw [lenW_take hx]; omega
def lengthI (xs : List (Int × Int)) : Int × Int := if !windowsB xs then (0, 1) else (lenW xs, 0)
set_option maxHeartbeats 4000000 in
theorem LengthOfWindows_c (u : Value) (xs : List (Int × Int)) (w : World) (hu : Rd cel2 w u xs) :
    Calls Try.prog 28 #[u] w (Ret (.tuple #[.int .i64 (lengthI xs).1, .int .i64 (lengthI xs).2]) w) := by
  refine hide_ret fun v H => ?_
  have hu' := hu
  obtain ⟨a, n, c, rfl, hs⟩ := hu'.sl
  have hcap := hs.le; have hmax := hs.cap
  unfold maxLen at hmax
  have HL := Lib.hid hs.len
  rcases h1 : windowsB xs with _ | _
  · simp only [lengthI, h1, Bool.not_true, Bool.not_false, if_true, if_false, Bool.false_eq_true] at H
    go_enter Try.func28, Try.ntmps28
    go_wp2_with (first | (go_at_call 17; refine Calls.mono (ValidWindows_c _ xs _ (hu.bel ?_)) ?_; (focus (repeat (first | exact Bel.refl _ | apply Bel.ext | apply Bel.alloc | apply Bel.drew))); rintro ee ww ⟨rfl, _, rfl⟩))
    all_goals go_ret2
    all_goals refine Ret.mk ?_ (?_ : Bel _ _)
    all_goals first | (repeat (first | exact Bel.refl _ | apply Bel.ext | apply Bel.alloc | apply Bel.drew | refine Bel.set ?_ (by first | (simp; done) | (simp [go_sem]; done) | omega) _)); done | exact H.out
  simp only [lengthI, h1, Bool.not_true, Bool.not_false, if_true, if_false, Bool.false_eq_true] at H
  have hget : ∀ (k : Nat) (x y : Int), xs[k]? = some (x, y) → 0 ≤ x ∧ x ≤ 10000000 ∧ 0 ≤ y ∧ y ≤ 10000000 := fun k x y hx => by have := windowsB_get h1 hx; omega
  have HB := Lib.hid (fun k hk => lenW_bd xs h1 k hk)
  have hlen := windowsB_len h1
  rw [← HL.out] at hlen
  go_enter Try.func28, Try.ntmps28
  go_wp2_with (first | (go_at_call 17; refine Calls.mono (ValidWindows_c _ xs _ (hu.bel ?_)) ?_; (focus (repeat (first | exact Bel.refl _ | apply Bel.ext | apply Bel.alloc | apply Bel.drew))); rintro ee ww ⟨rfl, _, rfl⟩))
  go_loopw [4, 12] (fun j i wr => ∃ k : Nat, k ≤ n ∧ i = .int .i64 k ∧ j = .int .i64 (lenW (xs.take k)) ∧ (∃ g, wr = ext w g)) (fun _ i _ => n - (intOf i).toNat)
  case atStart => refine ⟨0, Nat.zero_le _, rfl, rfl, ext_ex ?_⟩; (repeat (first | exact Bel.refl _ | apply Bel.ext | apply Bel.alloc | apply Bel.drew | refine Bel.set ?_ (by first | (simp; done) | (simp [go_sem]; done) | omega) _))
  case round =>
    obtain ⟨k, hk, rfl, rfl, ⟨g, rfl⟩⟩ := hrel
    by_cases hlt : k < n
    · obtain ⟨b, off, rfl, hb⟩ := hs.base hlt
      obtain ⟨x, y, hx, hc0, hc1⟩ := hs.at2 hlt
      obtain ⟨b1, b2, b3, b4⟩ := hget k x y hx.out
      have hbd := HB.out k (by rw [← HL.out]; exact hk)
      have HS := Lib.hid (lenW_take hx.out)
      clear hget
      generalize lenW (xs.take k) = z at *
      have w1 : IntKind.i64.wrap (y - x) = y - x := IntWalk.i64_in _ (by omega)
      have w2 : IntKind.i64.wrap (y - x + 1) = y - x + 1 := IntWalk.i64_in _ (by omega)
      have w3 : IntKind.i64.wrap (z + (y - x + 1)) = z + (y - x + 1) := IntWalk.i64_in _ (by omega)
      go_wp2_with (fail)
      all_goals (try ((refine region_ext (by kernel_rfl) (by kernel_rfl) ?_; (repeat (go_big_quiet_step (fail))); refine wpQuiet_nil ?_; rintro _ ⟨_, rfl⟩); go_wp2_with (fail)))
      go_roundw
      case rel => exact ⟨k + 1, by omega, by go_num, by rw [HS.out], ext_ex (by (repeat (first | exact Bel.refl _ | apply Bel.ext | apply Bel.alloc | apply Bel.drew | refine Bel.set ?_ (by first | (simp; done) | (simp [go_sem]; done) | omega) _)) : Bel _ _)⟩
      case measure => simp [intOf]; omega
    · go_wp2
      go_ret2
      refine Ret.mk ?_ (?_ : Bel _ _)
      · rw [← H.out, List.take_of_length_le (by rw [← HL.out]; omega)]
        try rfl
      · (repeat (first | exact Bel.refl _ | apply Bel.ext | apply Bel.alloc | apply Bel.drew | refine Bel.set ?_ (by first | (simp; done) | (simp [go_sem]; done) | omega) _))
set_option maxHeartbeats 4000000 in
theorem sLengthOfWindows_c (u : Value) (xs : List (Int × Int)) (w : World) (hu : Rd cel2 w u xs) :
    Calls Try.prog 27 #[u] w (Ret (.tuple #[.int .i64 (lengthI xs).1, .int .i64 (lengthI xs).2]) w) := by
  refine hide_ret fun v H => ?_
  have hu' := hu
  obtain ⟨a, n, c, rfl, hs⟩ := hu'.sl
  have hcap := hs.le; have hmax := hs.cap
  unfold maxLen at hmax
  have HL := Lib.hid hs.len
  rcases h1 : windowsB xs with _ | _
  · simp only [lengthI, h1, Bool.not_true, Bool.not_false, if_true, if_false, Bool.false_eq_true] at H
    go_enter Try.func27, Try.ntmps27
    go_wp2_with (first | (go_at_call 41; refine Calls.mono (l15Ok_c _ xs _ (hu.bel ?_)) ?_; (focus (repeat (first | exact Bel.refl _ | apply Bel.ext | apply Bel.alloc | apply Bel.drew))); rintro ee ww ⟨rfl, _, rfl⟩))
    all_goals go_ret2
    all_goals refine Ret.mk ?_ (?_ : Bel _ _)
    all_goals first | (repeat (first | exact Bel.refl _ | apply Bel.ext | apply Bel.alloc | apply Bel.drew | refine Bel.set ?_ (by first | (simp; done) | (simp [go_sem]; done) | omega) _)); done | exact H.out
  simp only [lengthI, h1, Bool.not_true, Bool.not_false, if_true, if_false, Bool.false_eq_true] at H
  have hget : ∀ (k : Nat) (x y : Int), xs[k]? = some (x, y) → 0 ≤ x ∧ x ≤ 10000000 ∧ 0 ≤ y ∧ y ≤ 10000000 := fun k x y hx => by have := windowsB_get h1 hx; omega
  have HB := Lib.hid (fun k hk => lenW_bd xs h1 k hk)
  have hlen := windowsB_len h1
  rw [← HL.out] at hlen
  go_enter Try.func27, Try.ntmps27
  go_wp2_with (first | (go_at_call 41; refine Calls.mono (l15Ok_c _ xs _ (hu.bel ?_)) ?_; (focus (repeat (first | exact Bel.refl _ | apply Bel.ext | apply Bel.alloc | apply Bel.drew))); rintro ee ww ⟨rfl, _, rfl⟩))
  go_loopw [4, 5] (fun j i wr => ∃ k : Nat, k ≤ n ∧ i = .int .i64 k ∧ j = .int .i64 (lenW (xs.take k)) ∧ (∃ g, wr = ext w g)) (fun _ i _ => n - (intOf i).toNat)
  case atStart => refine ⟨0, Nat.zero_le _, rfl, rfl, ext_ex ?_⟩; (repeat (first | exact Bel.refl _ | apply Bel.ext | apply Bel.alloc | apply Bel.drew | refine Bel.set ?_ (by first | (simp; done) | (simp [go_sem]; done) | omega) _))
  case round =>
    obtain ⟨k, hk, rfl, rfl, ⟨g, rfl⟩⟩ := hrel
    by_cases hlt : k < n
    · obtain ⟨b, off, rfl, hb⟩ := hs.base hlt
      obtain ⟨x, y, hx, hc0, hc1⟩ := hs.at2 hlt
      obtain ⟨b1, b2, b3, b4⟩ := hget k x y hx.out
      have hbd := HB.out k (by rw [← HL.out]; exact hk)
      have HS := Lib.hid (lenW_take hx.out)
      clear hget
      generalize lenW (xs.take k) = z at *
      have w1 : IntKind.i64.wrap (y - x) = y - x := IntWalk.i64_in _ (by omega)
      have w2 : IntKind.i64.wrap (y - x + 1) = y - x + 1 := IntWalk.i64_in _ (by omega)
      have w3 : IntKind.i64.wrap (z + (y - x + 1)) = z + (y - x + 1) := IntWalk.i64_in _ (by omega)
      go_wp2_with (fail)
      all_goals (try ((refine region_ext (by kernel_rfl) (by kernel_rfl) ?_; (repeat (go_big_quiet_step (fail))); refine wpQuiet_nil ?_; rintro _ ⟨_, rfl⟩); go_wp2_with (fail)))
      go_roundw
      case rel => exact ⟨k + 1, by omega, by go_num, by rw [HS.out], ext_ex (by (repeat (first | exact Bel.refl _ | apply Bel.ext | apply Bel.alloc | apply Bel.drew | refine Bel.set ?_ (by first | (simp; done) | (simp [go_sem]; done) | omega) _)) : Bel _ _)⟩
      case measure => simp [intOf]; omega
    · go_wp2
      go_ret2
      refine Ret.mk ?_ (?_ : Bel _ _)
      · rw [← H.out, List.take_of_length_le (by rw [← HL.out]; omega)]
        try rfl
      · (repeat (first | exact Bel.refl _ | apply Bel.ext | apply Bel.alloc | apply Bel.drew | refine Bel.set ?_ (by first | (simp; done) | (simp [go_sem]; done) | omega) _))
set_option maxHeartbeats 4000000 in
theorem LongestWindow_c (u : Value) (xs : List (Int × Int)) (w : World) (hu : Rd cel2 w u xs) :
    Calls Try.prog 32 #[u] w (Ret (.tuple #[.int .i64 (longI xs).1, .int .i64 (longI xs).2]) w) := by
  refine hide_ret fun v H => ?_
  have hu' := hu
  obtain ⟨a, n, c, rfl, hs⟩ := hu'.sl
  have hcap := hs.le; have hmax := hs.cap
  unfold maxLen at hmax
  have HL := Lib.hid hs.len
  rcases h1 : windowsB xs with _ | _
  · simp only [longI, h1, Bool.not_true, Bool.not_false, if_true, if_false, Bool.false_eq_true] at H
    go_enter Try.func32, Try.ntmps32
    go_wp2_with (first | (go_at_call 17; refine Calls.mono (ValidWindows_c _ xs _ (hu.bel ?_)) ?_; (focus (repeat (first | exact Bel.refl _ | apply Bel.ext | apply Bel.alloc | apply Bel.drew))); rintro ee ww ⟨rfl, _, rfl⟩))
    all_goals go_ret2
    all_goals refine Ret.mk ?_ (?_ : Bel _ _)
    all_goals first | (repeat (first | exact Bel.refl _ | apply Bel.ext | apply Bel.alloc | apply Bel.drew | refine Bel.set ?_ (by first | (simp; done) | (simp [go_sem]; done) | omega) _)); done | exact H.out
  by_cases h2 : n = 0
  · have h2' : xs.length = 0 := by rw [← HL.out]; exact h2
    simp only [longI, h1, Bool.not_true, Bool.not_false, if_true, if_false, Bool.false_eq_true, if_pos h2'] at H
    have h2'' : ((n : Int) == 0) = true := by simp [h2]
    clear h2' h2
    go_enter Try.func32, Try.ntmps32
    go_wp2_with (first | (go_at_call 17; refine Calls.mono (ValidWindows_c _ xs _ (hu.bel ?_)) ?_; (focus (repeat (first | exact Bel.refl _ | apply Bel.ext | apply Bel.alloc | apply Bel.drew))); rintro ee ww ⟨rfl, _, rfl⟩))
    all_goals go_ret2
    all_goals refine Ret.mk ?_ (?_ : Bel _ _)
    all_goals first | (repeat (first | exact Bel.refl _ | apply Bel.ext | apply Bel.alloc | apply Bel.drew | refine Bel.set ?_ (by first | (simp; done) | (simp [go_sem]; done) | omega) _)); done | exact H.out
  have h2' : ¬ xs.length = 0 := by rw [← HL.out]; exact h2
  simp only [longI, h1, Bool.not_true, Bool.not_false, if_true, if_false, Bool.false_eq_true, if_neg h2'] at H
  have h2'' : ((n : Int) == 0) = false := by simp; omega
  have hget : ∀ (k : Nat) (x y : Int), xs[k]? = some (x, y) → 0 ≤ x ∧ x ≤ 10000000 ∧ 0 ≤ y ∧ y ≤ 10000000 := fun k x y hx => by have := windowsB_get h1 hx; omega
  have hlen := windowsB_len h1
  rw [← HL.out] at hlen
  clear h2'
  go_enter Try.func32, Try.ntmps32
  go_wp2_with (first | (go_at_call 17; refine Calls.mono (ValidWindows_c _ xs _ (hu.bel ?_)) ?_; (focus (repeat (first | exact Bel.refl _ | apply Bel.ext | apply Bel.alloc | apply Bel.drew))); rintro ee ww ⟨rfl, _, rfl⟩))
  obtain ⟨b, off, rfl, hb⟩ := hs.base (k := 0) (by omega)
  go_loopw [4, 17] (fun j i wr => ∃ k best : Nat, k ≤ n ∧ best < n ∧ i = .int .i64 k ∧ j = .int .i64 best ∧ (∃ g, wr = ext w g) ∧ Hid ((maxGo (winKeys xs) 0 0 (winKeys xs) : Nat) = maxGo (winKeys xs) k best ((winKeys xs).drop k))) (fun _ i _ => n - (intOf i).toNat)
  case atStart => refine ⟨0, 0, Nat.zero_le _, by omega, rfl, rfl, ext_ex ?_, Lib.hid rfl⟩; (repeat (first | exact Bel.refl _ | apply Bel.ext | apply Bel.alloc | apply Bel.drew | refine Bel.set ?_ (by first | (simp; done) | (simp [go_sem]; done) | omega) _))
  case round =>
    obtain ⟨k, best, hk, hbest, rfl, rfl, ⟨g, rfl⟩, hv⟩ := hrel
    by_cases hlt : k < n
    · obtain ⟨x, y, hx, hc0, hc1⟩ := hs.at2 hlt
      obtain ⟨x', y', hy, hd0, hd1⟩ := hs.at2 hbest
      obtain ⟨b1, b2, b3, b4⟩ := hget k x y hx.out
      obtain ⟨b5, b6, b7, b8⟩ := hget best x' y' hy.out
      have hgy := Lib.hid (show (winKeys xs).getD best 0 = y' - x' from getD_of (keys_get hy.out))
      have hgx := Lib.hid (keys_get hx.out)
      have w1 : IntKind.i64.wrap (y - x) = y - x := IntWalk.i64_in _ (by omega)
      have w2 : IntKind.i64.wrap (y' - x') = y' - x' := IntWalk.i64_in _ (by omega)
      clear hget
      by_cases h3 : y' - x' < y - x
      · go_wp2_with (fail)
        all_goals (try ((refine region_ext (by kernel_rfl) (by kernel_rfl) ?_; (repeat (go_big_quiet_step (fail))); refine wpQuiet_nil ?_; rintro _ ⟨_, rfl⟩); go_wp2_with (fail)))
        go_roundw
        case rel =>
          refine ⟨k + 1, k, by omega, by omega, by go_num, by go_num, ext_ex (by (repeat (first | exact Bel.refl _ | apply Bel.ext | apply Bel.alloc | apply Bel.drew | refine Bel.set ?_ (by first | (simp; done) | (simp [go_sem]; done) | omega) _)) : Bel _ _), Lib.hid ?_⟩
          rw [hv.out, drop_cons_of hgx.out, maxGo_pos (by rw [hgy.out]; exact h3)]
        case measure => simp [intOf]; omega
      · go_wp2_with (fail)
        all_goals (try ((refine region_ext (by kernel_rfl) (by kernel_rfl) ?_; (repeat (go_big_quiet_step (fail))); refine wpQuiet_nil ?_; rintro _ ⟨_, rfl⟩); go_wp2_with (fail)))
        go_roundw
        case rel =>
          refine ⟨k + 1, best, by omega, by omega, by go_num, by go_num, ext_ex (by (repeat (first | exact Bel.refl _ | apply Bel.ext | apply Bel.alloc | apply Bel.drew | refine Bel.set ?_ (by first | (simp; done) | (simp [go_sem]; done) | omega) _)) : Bel _ _), Lib.hid ?_⟩
          rw [hv.out, drop_cons_of hgx.out, maxGo_neg (by rw [hgy.out]; omega)]
        case measure => simp [intOf]; omega
    · go_wp2
      go_ret2
      refine Ret.mk ?_ (?_ : Bel _ _)
      · rw [← H.out, hv.out, List.drop_of_length_le (by rw [lenKeys, ← HL.out]; omega), maxGo_nil]
        try rfl
      · (repeat (first | exact Bel.refl _ | apply Bel.ext | apply Bel.alloc | apply Bel.drew | refine Bel.set ?_ (by first | (simp; done) | (simp [go_sem]; done) | omega) _))
set_option maxHeartbeats 4000000 in
theorem sLongestWindow_c (u : Value) (xs : List (Int × Int)) (w : World) (hu : Rd cel2 w u xs) :
    Calls Try.prog 31 #[u] w (Ret (.tuple #[.int .i64 (longI xs).1, .int .i64 (longI xs).2]) w) := by
  refine hide_ret fun v H => ?_
  have hu' := hu
  obtain ⟨a, n, c, rfl, hs⟩ := hu'.sl
  have hcap := hs.le; have hmax := hs.cap
  unfold maxLen at hmax
  have HL := Lib.hid hs.len
  rcases h1 : windowsB xs with _ | _
  · simp only [longI, h1, Bool.not_true, Bool.not_false, if_true, if_false, Bool.false_eq_true] at H
    go_enter Try.func31, Try.ntmps31
    go_wp2_with (first | (go_at_call 41; refine Calls.mono (l15Ok_c _ xs _ (hu.bel ?_)) ?_; (focus (repeat (first | exact Bel.refl _ | apply Bel.ext | apply Bel.alloc | apply Bel.drew))); rintro ee ww ⟨rfl, _, rfl⟩))
    all_goals go_ret2
    all_goals refine Ret.mk ?_ (?_ : Bel _ _)
    all_goals first | (repeat (first | exact Bel.refl _ | apply Bel.ext | apply Bel.alloc | apply Bel.drew | refine Bel.set ?_ (by first | (simp; done) | (simp [go_sem]; done) | omega) _)); done | exact H.out
  by_cases h2 : n = 0
  · have h2' : xs.length = 0 := by rw [← HL.out]; exact h2
    simp only [longI, h1, Bool.not_true, Bool.not_false, if_true, if_false, Bool.false_eq_true, if_pos h2'] at H
    have h2'' : ((n : Int) == 0) = true := by simp [h2]
    clear h2' h2
    go_enter Try.func31, Try.ntmps31
    go_wp2_with (first | (go_at_call 41; refine Calls.mono (l15Ok_c _ xs _ (hu.bel ?_)) ?_; (focus (repeat (first | exact Bel.refl _ | apply Bel.ext | apply Bel.alloc | apply Bel.drew))); rintro ee ww ⟨rfl, _, rfl⟩))
    all_goals go_ret2
    all_goals refine Ret.mk ?_ (?_ : Bel _ _)
    all_goals first | (repeat (first | exact Bel.refl _ | apply Bel.ext | apply Bel.alloc | apply Bel.drew | refine Bel.set ?_ (by first | (simp; done) | (simp [go_sem]; done) | omega) _)); done | exact H.out
  have h2' : ¬ xs.length = 0 := by rw [← HL.out]; exact h2
  simp only [longI, h1, Bool.not_true, Bool.not_false, if_true, if_false, Bool.false_eq_true, if_neg h2'] at H
  have h2'' : ((n : Int) == 0) = false := by simp; omega
  have hget : ∀ (k : Nat) (x y : Int), xs[k]? = some (x, y) → 0 ≤ x ∧ x ≤ 10000000 ∧ 0 ≤ y ∧ y ≤ 10000000 := fun k x y hx => by have := windowsB_get h1 hx; omega
  have hlen := windowsB_len h1
  rw [← HL.out] at hlen
  clear h2'
  go_enter Try.func31, Try.ntmps31
  go_wp2_with (first | (go_at_call 41; refine Calls.mono (l15Ok_c _ xs _ (hu.bel ?_)) ?_; (focus (repeat (first | exact Bel.refl _ | apply Bel.ext | apply Bel.alloc | apply Bel.drew))); rintro ee ww ⟨rfl, _, rfl⟩))
  obtain ⟨b, off, rfl, hb⟩ := hs.base (k := 0) (by omega)
  go_loopw [4, 5] (fun j i wr => ∃ k best : Nat, k ≤ n ∧ best < n ∧ i = .int .i64 k ∧ j = .int .i64 best ∧ (∃ g, wr = ext w g) ∧ Hid ((maxGo (winKeys xs) 0 0 (winKeys xs) : Nat) = maxGo (winKeys xs) k best ((winKeys xs).drop k))) (fun _ i _ => n - (intOf i).toNat)
  case atStart => refine ⟨1, 0, by omega, by omega, rfl, rfl, ext_ex ?_, Lib.hid (maxGo_start (by rw [lenKeys, ← HL.out]; omega))⟩; (repeat (first | exact Bel.refl _ | apply Bel.ext | apply Bel.alloc | apply Bel.drew | refine Bel.set ?_ (by first | (simp; done) | (simp [go_sem]; done) | omega) _))
  case round =>
    obtain ⟨k, best, hk, hbest, rfl, rfl, ⟨g, rfl⟩, hv⟩ := hrel
    by_cases hlt : k < n
    · obtain ⟨x, y, hx, hc0, hc1⟩ := hs.at2 hlt
      obtain ⟨x', y', hy, hd0, hd1⟩ := hs.at2 hbest
      obtain ⟨b1, b2, b3, b4⟩ := hget k x y hx.out
      obtain ⟨b5, b6, b7, b8⟩ := hget best x' y' hy.out
      have hgy := Lib.hid (show (winKeys xs).getD best 0 = y' - x' from getD_of (keys_get hy.out))
      have hgx := Lib.hid (keys_get hx.out)
      have w1 : IntKind.i64.wrap (y - x) = y - x := IntWalk.i64_in _ (by omega)
      have w2 : IntKind.i64.wrap (y' - x') = y' - x' := IntWalk.i64_in _ (by omega)
      clear hget
      by_cases h3 : y' - x' < y - x
      · go_wp2_with (fail)
        all_goals (try ((refine region_ext (by kernel_rfl) (by kernel_rfl) ?_; (repeat (go_big_quiet_step (fail))); refine wpQuiet_nil ?_; rintro _ ⟨_, rfl⟩); go_wp2_with (fail)))
        go_roundw
        case rel =>
          refine ⟨k + 1, k, by omega, by omega, by go_num, by go_num, ext_ex (by (repeat (first | exact Bel.refl _ | apply Bel.ext | apply Bel.alloc | apply Bel.drew | refine Bel.set ?_ (by first | (simp; done) | (simp [go_sem]; done) | omega) _)) : Bel _ _), Lib.hid ?_⟩
          rw [hv.out, drop_cons_of hgx.out, maxGo_pos (by rw [hgy.out]; exact h3)]
        case measure => simp [intOf]; omega
      · go_wp2_with (fail)
        all_goals (try ((refine region_ext (by kernel_rfl) (by kernel_rfl) ?_; (repeat (go_big_quiet_step (fail))); refine wpQuiet_nil ?_; rintro _ ⟨_, rfl⟩); go_wp2_with (fail)))
        go_roundw
        case rel =>
          refine ⟨k + 1, best, by omega, by omega, by go_num, by go_num, ext_ex (by (repeat (first | exact Bel.refl _ | apply Bel.ext | apply Bel.alloc | apply Bel.drew | refine Bel.set ?_ (by first | (simp; done) | (simp [go_sem]; done) | omega) _)) : Bel _ _), Lib.hid ?_⟩
          rw [hv.out, drop_cons_of hgx.out, maxGo_neg (by rw [hgy.out]; omega)]
        case measure => simp [intOf]; omega
    · go_wp2
      go_ret2
      refine Ret.mk ?_ (?_ : Bel _ _)
      · rw [← H.out, hv.out, List.drop_of_length_le (by rw [lenKeys, ← HL.out]; omega), maxGo_nil]
        try rfl
      · (repeat (first | exact Bel.refl _ | apply Bel.ext | apply Bel.alloc | apply Bel.drew | refine Bel.set ?_ (by first | (simp; done) | (simp [go_sem]; done) | omega) _))
end Go.Proofs.Ytehfbpdjhkdchaa
