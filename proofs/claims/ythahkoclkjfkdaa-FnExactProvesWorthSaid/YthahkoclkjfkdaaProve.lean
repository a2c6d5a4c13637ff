/- Whether prices prove a worth; sums; program and reference. -/
import Derived.Test.YthahkoclkjfkdaaAssn2
namespace Go.Proofs.Ythahkoclkjfkdaa
open Go.RowKit

theorem args_is3 {P : Program} {f : FuncId} {w : World} {Q : Ending → World → Prop} {v x y : Value} (u : Value) (_ : v = u) (c : Calls P f #[v, x, y] w Q) : Calls P f #[v, x, y] w Q := c
theorem args_is1 {P : Program} {f : FuncId} {w : World} {Q : Ending → World → Prop} {v : Value} (u : Value) (_ : v = u) (c : Calls P f #[v] w Q) : Calls P f #[v] w Q := c
def covR (o : Int) (ss : List Int) (k : Nat) : List Int → Bool
  | [] => true
  | x :: r => !decide (o + ss.getD k 0 < x) && covR o ss (k + 1) r
def covA (os ss : List Int) (i : Nat) : List (List Int) → Bool
  | [] => true
  | xs :: r => covR (os.getD i 0) ss 0 xs && covA os ss (i + 1) r
def priceB (xs : List Int) : Bool := xs.all fun x => inB x 0 1000000
def proveI (ws : List (List Int)) (os ss : List Int) (t : Int) : Bool × Int :=
  if !worthsB ws then (false, 1)
  else if !(decide (os.length = ws.length) && (decide (ss.length = wid ws) && (priceB os && (priceB ss && inB t 0 1000000)))) then (false, 2)
  else if !covA os ss 0 ws then (false, 0) else (decide (os.sum + ss.sum ≤ t), 0)
theorem price_mem {xs : List Int} (h : priceB xs = true) : ∀ x ∈ xs, 0 ≤ x ∧ x ≤ 1000000 := by
  unfold priceB at h
  simp only [List.all_eq_true] at h
  exact fun x hx => inB_iff.1 (h x hx)
theorem sum_bd : ∀ {xs : List Int}, (∀ x ∈ xs, 0 ≤ x ∧ x ≤ 1000000) → 0 ≤ xs.sum ∧ xs.sum ≤ 1000000 * (xs.length : Int)
  | [], _ => by simp
  | x :: r, h => by
    have ih := @sum_bd r (fun y hy => h y (List.mem_cons_of_mem _ hy))
    have := h x List.mem_cons_self
    simp only [List.sum_cons, List.length_cons, Int.natCast_add, Int.natCast_one]; omega
theorem sum_at {xs : List Int} {k : Nat} {x : Int} (h : xs[k]? = some x) : (xs.drop k).sum = x + (xs.drop (k + 1)).sum := by rw [drop_cons_of h, List.sum_cons]
theorem covR_at {o : Int} {ss xs : List Int} {k : Nat} {x s : Int} (h : xs[k]? = some x) (hs : ss[k]? = some s) : covR o ss k (xs.drop k) = (!decide (o + s < x) && covR o ss (k + 1) (xs.drop (k + 1))) := by
  rw [drop_cons_of h, covR, getD_of hs]
theorem covA_at {os ss : List Int} {ws : List (List Int)} {i : Nat} {xs : List Int} {o : Int} (h : ws[i]? = some xs) (ho : os[i]? = some o) : covA os ss i (ws.drop i) = (covR o ss 0 xs && covA os ss (i + 1) (ws.drop (i + 1))) := by
  rw [drop_cons_of h, covA, getD_of ho]
theorem covA_end {os ss : List Int} {ws : List (List Int)} {i : Nat} (h : ws.length ≤ i) : covA os ss i (ws.drop i) = true := by rw [List.drop_of_length_le h]; rfl
theorem covR_end {o : Int} {ss xs : List Int} {i : Nat} (h : xs.length ≤ i) : covR o ss i (xs.drop i) = true := by rw [List.drop_of_length_le h]; rfl
set_option maxHeartbeats 1000000 in
theorem sum_c (u : Value) (xs : List Int) (hb : ∀ x ∈ xs, 0 ≤ x ∧ x ≤ 1000000) (hl : xs.length ≤ 1000000) (w : World) (hu : Rd celI w u xs) :
    Calls Try.prog 45 #[u] w (Ret (.int .i64 xs.sum) w) := by
  refine hide_ret fun v H => ?_
  obtain ⟨a, n, c, rfl, hs⟩ := hu.sl
  have hcap := hs.le; have hmax := hs.cap
  unfold maxLen at hmax
  have HL := Lib.hid hs.len
  rw [← HL.out] at hl
  go_enter Try.func45, Try.ntmps45
  go_wp2
  go_loopw [3, 5, 8] (fun t _ i wr => ∃ (k : Nat) (r : Int), k ≤ n ∧ i = .int .i64 k ∧ t = .int .i64 r ∧ 0 ≤ r ∧ r ≤ 1000000 * (k : Int) ∧ (∃ g, wr = ext w g) ∧ Hid (v = .int .i64 (r + (xs.drop k).sum))) (fun _ _ i _ => n - (intOf i).toNat)
  case atStart => exact ⟨0, 0, Nat.zero_le _, rfl, rfl, by omega, by omega, ext_ex (Bel.refl _), Lib.hid (by rw [← H.out]; simp)⟩
  case round =>
    obtain ⟨k, r, hk, rfl, rfl, hr1, hr2, ⟨g, rfl⟩, hv⟩ := hrel
    by_cases hlt : k < n
    · obtain ⟨b, off, rfl, hbb⟩ := hs.base hlt
      obtain ⟨y, hy, hc⟩ := hs.at1 hlt
      obtain ⟨y1, y2⟩ := hb y (List.mem_of_getElem? hy.out)
      have hvv := hv.out
      rw [sum_at hy.out] at hvv
      have HV := Lib.hid hvv
      clear hvv hv hb
      go_wp2
      go_roundw
      case rel =>
        refine ⟨k + 1, r + y, by omega, by go_num, by go_num, by omega, by omega, ext_ex (by (repeat (first | with_reducible exact Bel.refl _ | apply Bel.ext | apply Bel.alloc | apply Bel.drew | exact Bel.refl _ | refine Bel.set ?_ (by first | (simp; done) | (simp [go_sem]; done) | omega) _)) : Bel _ _), Lib.hid ?_⟩
        rw [HV.out, Int.add_assoc]
      case measure => simp [intOf]; omega
    · go_wp2
      go_ret
      refine Ret.mk ?_ (?_ : Bel _ _)
      · rw [hv.out, List.drop_of_length_le (by rw [← HL.out]; omega)]; simp
      · (repeat (first | with_reducible exact Bel.refl _ | apply Bel.ext | apply Bel.alloc | apply Bel.drew | exact Bel.refl _ | refine Bel.set ?_ (by first | (simp; done) | (simp [go_sem]; done) | omega) _))
set_option maxHeartbeats 1000000 in
theorem l02Sum_c (u : Value) (xs : List Int) (hb : ∀ x ∈ xs, 0 ≤ x ∧ x ≤ 1000000) (hl : xs.length ≤ 1000000) (w : World) (hu : Rd celI w u xs) :
    Calls Try.prog 43 #[u] w (Ret (.int .i64 xs.sum) w) := by
  refine hide_ret fun v H => ?_
  obtain ⟨a, n, c, rfl, hs⟩ := hu.sl
  have hcap := hs.le; have hmax := hs.cap
  unfold maxLen at hmax
  have HL := Lib.hid hs.len
  rw [← HL.out] at hl
  go_enter Try.func43, Try.ntmps43
  go_wp2
  go_loopw [3, 4] (fun t i wr => ∃ (k : Nat) (r : Int), k ≤ n ∧ i = .int .i64 k ∧ t = .int .i64 r ∧ 0 ≤ r ∧ r ≤ 1000000 * (k : Int) ∧ (∃ g, wr = ext w g) ∧ Hid (v = .int .i64 (r + (xs.drop k).sum))) (fun _ i _ => n - (intOf i).toNat)
  case atStart => exact ⟨0, 0, Nat.zero_le _, rfl, rfl, by omega, by omega, ext_ex (Bel.refl _), Lib.hid (by rw [← H.out]; simp)⟩
  case round =>
    obtain ⟨k, r, hk, rfl, rfl, hr1, hr2, ⟨g, rfl⟩, hv⟩ := hrel
    by_cases hlt : k < n
    · obtain ⟨b, off, rfl, hbb⟩ := hs.base hlt
      obtain ⟨y, hy, hc⟩ := hs.at1 hlt
      obtain ⟨y1, y2⟩ := hb y (List.mem_of_getElem? hy.out)
      have hvv := hv.out
      rw [sum_at hy.out] at hvv
      have HV := Lib.hid hvv
      clear hvv hv hb
      go_wp2
      all_goals (try ((refine region_ext (by kernel_rfl) (by kernel_rfl) ?_; (repeat (go_big_quiet_step (fail))); refine wpQuiet_nil ?_; rintro _ ⟨_, rfl⟩); go_wp2))
      go_roundw
      case rel =>
        refine ⟨k + 1, r + y, by omega, by go_num, by go_num, by omega, by omega, ext_ex (by (repeat (first | with_reducible exact Bel.refl _ | apply Bel.ext | apply Bel.alloc | apply Bel.drew | exact Bel.refl _ | refine Bel.set ?_ (by first | (simp; done) | (simp [go_sem]; done) | omega) _)) : Bel _ _), Lib.hid ?_⟩
        rw [HV.out, Int.add_assoc]
      case measure => simp [intOf]; omega
    · go_wp2
      go_ret
      refine Ret.mk ?_ (?_ : Bel _ _)
      · rw [hv.out, List.drop_of_length_le (by rw [← HL.out]; omega)]; simp
      · (repeat (first | with_reducible exact Bel.refl _ | apply Bel.ext | apply Bel.alloc | apply Bel.drew | exact Bel.refl _ | refine Bel.set ?_ (by first | (simp; done) | (simp [go_sem]; done) | omega) _))
set_option maxHeartbeats 1000000 in
theorem l17Prices_c (u : Value) (xs : List Int) (w : World) (hu : Rd celI w u xs) :
    Calls Try.prog 41 #[u] w (Ret (.bool (priceB xs)) w) := by
  refine hide_ret fun v H => ?_
  obtain ⟨a, n, c, rfl, hs⟩ := hu.sl
  have hcap := hs.le; have hmax := hs.cap
  unfold maxLen at hmax
  have HL := Lib.hid hs.len
  go_enter Try.func41, Try.ntmps41
  go_wp2
  go_loopw [3] (fun i wr => ∃ k : Nat, k ≤ n ∧ i = .int .i64 k ∧ (∃ g, wr = ext w g) ∧ Hid (v = .bool (priceB (xs.drop k)))) (fun i _ => n - (intOf i).toNat)
  case atStart => exact ⟨0, Nat.zero_le _, rfl, ext_ex (Bel.refl _), Lib.hid (by rw [← H.out]; rfl)⟩
  case round =>
    obtain ⟨k, hk, rfl, ⟨g, rfl⟩, hv⟩ := hrel
    by_cases hlt : k < n
    · obtain ⟨b, off, rfl, hbb⟩ := hs.base hlt
      obtain ⟨y, hy, hc⟩ := hs.at1 hlt
      have HI := Lib.hid (fun w => l00In_c y 0 1000000 w)
      have hvv := hv.out
      unfold priceB at hvv
      rw [all_drop hy.out] at hvv
      generalize inB y 0 1000000 = q at *
      clear hv
      cases q
      · have HV := Lib.hid hvv
        clear hvv
        go_wp2_with (first | (go_at_call 42; refine Calls.mono (HI.out _) ?_; rintro ee ww ⟨rfl, rfl⟩))
        go_ret
        refine Ret.mk ?_ (?_ : Bel _ _)
        · rw [HV.out]; simp
        · (repeat (first | with_reducible exact Bel.refl _ | apply Bel.ext | apply Bel.alloc | apply Bel.drew | exact Bel.refl _ | refine Bel.set ?_ (by first | (simp; done) | (simp [go_sem]; done) | omega) _))
      · have HV := Lib.hid hvv
        clear hvv
        go_wp2_with (first | (go_at_call 42; refine Calls.mono (HI.out _) ?_; rintro ee ww ⟨rfl, rfl⟩))
        go_roundw
        case rel =>
          refine ⟨k + 1, by omega, by go_num, ext_ex (by (repeat (first | with_reducible exact Bel.refl _ | apply Bel.ext | apply Bel.alloc | apply Bel.drew | exact Bel.refl _ | refine Bel.set ?_ (by first | (simp; done) | (simp [go_sem]; done) | omega) _)) : Bel _ _), Lib.hid ?_⟩
          rw [HV.out]; simp [priceB]
        case measure => simp [intOf]; omega
    · go_wp2
      go_ret
      refine Ret.mk ?_ (?_ : Bel _ _)
      · rw [hv.out, List.drop_of_length_le (by rw [← HL.out]; omega)]; rfl
      · (repeat (first | with_reducible exact Bel.refl _ | apply Bel.ext | apply Bel.alloc | apply Bel.drew | exact Bel.refl _ | refine Bel.set ?_ (by first | (simp; done) | (simp [go_sem]; done) | omega) _))
end Go.Proofs.Ythahkoclkjfkdaa
