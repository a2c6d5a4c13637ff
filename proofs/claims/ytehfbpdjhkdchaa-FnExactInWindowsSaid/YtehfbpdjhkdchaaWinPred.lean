/- Whether a time is in a window; windows that are long enough: what both sides return. -/
import Derived.Test.YtehfbpdjhkdchaaWindows
import Derived.Test.YtehfbpdjhkdchaaPredWindow
namespace Go.Proofs.Ytehfbpdjhkdchaa
open Go.RowKit

def inWinP (t : Int) (z : Int × Int) : Bool := inB t z.1 z.2
def inWinI (t : Int) (xs : List (Int × Int)) : Bool × Int := if !windowsB xs then (false, 1) else if !timeB t then (false, 2) else (xs.any (inWinP t), 0)
def longP (l : Int) (z : Int × Int) : Bool := decide (l ≤ z.2 - z.1 + 1)
def longL (l : Int) (xs : List (Int × Int)) : List (Int × Int) × Int := if !windowsB xs then ([], 1) else if !inB l 1 10000001 then ([], 2) else (xs.filter (longP l), 0)
theorem longL_len (l : Int) (xs : List (Int × Int)) : (longL l xs).1.length ≤ xs.length := by
  unfold longL; split <;> (try split) <;> simp [List.length_filter_le]
theorem inAny_pred (t x y : Int) (B : Nat) (w : World) (hB : B < w.heap.size) (h0 : w.cell? ⟨B, 0, none⟩ = some (.int .i64 t)) :
    Calls Try.prog 63 (#[.agg #[.int .i64 x, .int .i64 y]] ++ #[.pointer (some ⟨B, 0, none⟩)]) w (Ret (.bool (inWinP t (x, y))) w) := by
  refine hide_ret fun v H => ?_
  show Calls Try.prog 63 #[.agg #[.int .i64 x, .int .i64 y], .pointer (some ⟨B, 0, none⟩)] w _
  have HC := Lib.hid (fun w => in_c t x y w)
  unfold inWinP at H
  generalize inB t x y = r at *
  go_enter Try.func63, Try.ntmps63
  go_wp2_with (first | (go_at_call 51; refine (HC.out _).mono ?_; rintro ee ww ⟨rfl, rfl⟩))
  all_goals go_ret
  all_goals refine Ret.mk ?_ (?_ : Bel _ _)
  all_goals first | (repeat (first | exact Bel.refl _ | apply Bel.ext | apply Bel.alloc | apply Bel.drew | refine Bel.set ?_ (by first | (simp; done) | (simp [go_sem]; done) | omega) _)); done | exact H.out
set_option maxHeartbeats 2000000 in
theorem inAny_c (u : Value) (xs : List (Int × Int)) (t : Int) (w : World) (hu : Rd cel2 w u xs) :
    Calls Try.prog 56 #[u, .int .i64 t] w (Ret (.bool (xs.any (inWinP t))) w) := by
  refine hide_ret fun v H => ?_
  have eg : ∀ args w, (callFunc 63 args).run Try.prog w = .ok (.enter 63 args) w := enters_of Try.func63 (by kernel_rfl) rfl
  have hcon := ContainsFuncWindow_c (inWinP t) 63 #[.pointer (some ⟨w.heap.size, 0, none⟩)] eg u xs (w.alloc (.cells #[.int .i64 t] 2))
    (hu.bel (by (repeat (first | exact Bel.refl _ | apply Bel.ext | apply Bel.alloc | apply Bel.drew | refine Bel.set ?_ (by first | (simp; done) | (simp [go_sem]; done) | omega) _)))) (fun x y W _ hW => inAny_pred t x y w.heap.size W (by have := hW.size; simp at this; omega) (by rw [Below.cell hW (p := ⟨w.heap.size, 0, none⟩) (by simp)]; simp [go_sem]))
  generalize xs.any (inWinP t) = r at *
  have HC := Lib.hid hcon
  clear hcon
  go_enter Try.func56, Try.ntmps56
  go_wp2_with (go_at_call 62; refine HC.out.mono ?_; rintro ee ww ⟨rfl, _, rfl⟩)
  go_ret
  refine Ret.mk ?_ (?_ : Bel _ _)
  · exact H.out
  · (repeat (first | exact Bel.refl _ | apply Bel.ext | apply Bel.alloc | apply Bel.drew | refine Bel.set ?_ (by first | (simp; done) | (simp [go_sem]; done) | omega) _))
set_option maxHeartbeats 2000000 in
theorem InWindows_c (u : Value) (xs : List (Int × Int)) (t : Int) (w : World) (hu : Rd cel2 w u xs) :
    Calls Try.prog 34 #[u, .int .i64 t] w (Ret (.tuple #[.bool (inWinI t xs).1, .int .i64 (inWinI t xs).2]) w) := by
  refine hide_ret fun v H => ?_
  have HV := Lib.hid (fun w hu => ValidWindows_c u xs w hu)
  have HT := Lib.hid (fun w => ValidTime_c t w)
  have HA := Lib.hid (fun w hu => inAny_c u xs t w hu)
  unfold inWinI at H
  generalize xs.any (inWinP t) = r at *
  rcases h1 : windowsB xs with _ | _ <;> rcases h2 : timeB t with _ | _ <;> simp only [h1, h2, Bool.not_true, Bool.not_false, Bool.true_or, Bool.or_true, Bool.false_or, Bool.or_false, Bool.true_and, Bool.and_true, Bool.false_and, Bool.and_false, if_true, if_false, Bool.false_eq_true] at H HV HT
  all_goals
    clear h1 h2
    go_enter Try.func34, Try.ntmps34
    go_wp2_with (first | (go_at_call 17; refine Calls.mono (HV.out _ (hu.bel ?_)) ?_; (focus (repeat (first | exact Bel.refl _ | apply Bel.ext | apply Bel.alloc | apply Bel.drew))); rintro ee ww ⟨rfl, _, rfl⟩) | (go_at_call 43; refine Calls.mono (HT.out _) ?_; rintro ee ww ⟨rfl, rfl⟩) | (go_at_call 56; refine Calls.mono (HA.out _ (hu.bel ?_)) ?_; (focus (repeat (first | exact Bel.refl _ | apply Bel.ext | apply Bel.alloc | apply Bel.drew))); rintro ee ww ⟨rfl, _, rfl⟩))
    go_ret2
    refine Ret.mk ?_ (?_ : Bel _ _)
    · exact H.out
    · (repeat (first | exact Bel.refl _ | apply Bel.ext | apply Bel.alloc | apply Bel.drew | refine Bel.set ?_ (by first | (simp; done) | (simp [go_sem]; done) | omega) _))
set_option maxHeartbeats 2000000 in
theorem l15In_c (u : Value) (xs : List (Int × Int)) (t : Int) (w : World) (hu : Rd cel2 w u xs) :
    Calls Try.prog 55 #[u, .int .i64 t] w (Ret (.bool (xs.any (inWinP t))) w) := by
  refine hide_ret fun v H => ?_
  obtain ⟨a, n, c, rfl, hs⟩ := hu.sl
  have hcap := hs.le; have hmax := hs.cap
  unfold maxLen at hmax
  have HL := Lib.hid hs.len
  go_enter Try.func55, Try.ntmps55
  go_wp2
  go_loopw [5] (fun i wr => ∃ k : Nat, k ≤ n ∧ i = .int .i64 k ∧ (∃ g, wr = ext w g) ∧ Hid (v = .bool ((xs.drop k).any (inWinP t)))) (fun i _ => n - (intOf i).toNat)
  case atStart => exact ⟨0, Nat.zero_le _, rfl, ext_ex (Bel.refl _), Lib.hid (by rw [← H.out]; rfl)⟩
  case round =>
    obtain ⟨k, hk, rfl, ⟨g, rfl⟩, hv⟩ := hrel
    by_cases hlt : k < n
    · obtain ⟨b, off, rfl, hb⟩ := hs.base hlt
      obtain ⟨x, y, hx, hc0, hc1⟩ := hs.at2 hlt
      have HC := Lib.hid (fun w => in_c t x y w)
      rcases hq : inB t x y with _ | _
      · have hcall : ∀ W, Calls Try.prog 50 #[.int .i64 t, .int .i64 x, .int .i64 y] W (Same (.bool false) W) := fun W => hq ▸ l00In_c t x y W
        have HQ := Lib.hid hq
        have HC := Lib.hid hcall
        clear hcall hq
        go_wp2_with fail
        refine region_ext (by kernel_rfl) (by kernel_rfl) ?_
        repeat (go_big_quiet_step (first | (go_at_call 50; exact Calls.in_same (HC.out _))))
        refine wpQuiet_nil ?_
        rintro _ ⟨_, rfl⟩
        go_wp2
        go_roundw
        case rel =>
          refine ⟨k + 1, by omega, by go_num, ext_ex (by (repeat (first | exact Bel.refl _ | apply Bel.ext | apply Bel.alloc | apply Bel.drew | refine Bel.set ?_ (by first | (simp; done) | (simp [go_sem]; done) | omega) _)) : Bel _ _), Lib.hid ?_⟩
          rw [hv.out, drop_cons_of hx.out]; simp [inWinP, HQ.out]
        case measure => simp [intOf]; omega
      · have hcall : ∀ W, Calls Try.prog 50 #[.int .i64 t, .int .i64 x, .int .i64 y] W (Same (.bool true) W) := fun W => hq ▸ l00In_c t x y W
        have HQ := Lib.hid hq
        have HC := Lib.hid hcall
        clear hcall hq
        go_wp2_with fail
        refine region_ext (by kernel_rfl) (by kernel_rfl) ?_
        repeat (go_big_quiet_step (first | (go_at_call 50; exact Calls.in_same (HC.out _))))
        refine wpQuiet_nil ?_
        rintro _ ⟨_, rfl⟩
        go_wp2
        go_ret
        refine Ret.mk ?_ (?_ : Bel _ _)
        · rw [hv.out, drop_cons_of hx.out]; simp [inWinP, HQ.out]
        · (repeat (first | exact Bel.refl _ | apply Bel.ext | apply Bel.alloc | apply Bel.drew | refine Bel.set ?_ (by first | (simp; done) | (simp [go_sem]; done) | omega) _))
    · go_wp2
      go_ret
      refine Ret.mk ?_ (?_ : Bel _ _)
      · rw [hv.out, List.drop_of_length_le (by rw [← HL.out]; omega)]; simp
      · (repeat (first | exact Bel.refl _ | apply Bel.ext | apply Bel.alloc | apply Bel.drew | refine Bel.set ?_ (by first | (simp; done) | (simp [go_sem]; done) | omega) _))
set_option maxHeartbeats 2000000 in
theorem sInWindows_c (u : Value) (xs : List (Int × Int)) (t : Int) (w : World) (hu : Rd cel2 w u xs) :
    Calls Try.prog 33 #[u, .int .i64 t] w (Ret (.tuple #[.bool (inWinI t xs).1, .int .i64 (inWinI t xs).2]) w) := by
  refine hide_ret fun v H => ?_
  have HV := Lib.hid (fun w hu => l15Ok_c u xs w hu)
  have HT := Lib.hid (fun w => l03Time_c t w)
  have HA := Lib.hid (fun w hu => l15In_c u xs t w hu)
  unfold inWinI at H
  generalize xs.any (inWinP t) = r at *
  rcases h1 : windowsB xs with _ | _ <;> rcases h2 : timeB t with _ | _ <;> simp only [h1, h2, Bool.not_true, Bool.not_false, Bool.true_or, Bool.or_true, Bool.false_or, Bool.or_false, Bool.true_and, Bool.and_true, Bool.false_and, Bool.and_false, if_true, if_false, Bool.false_eq_true] at H HV HT
  all_goals
    clear h1 h2
    go_enter Try.func33, Try.ntmps33
    go_wp2_with (first | (go_at_call 41; refine Calls.mono (HV.out _ (hu.bel ?_)) ?_; (focus (repeat (first | exact Bel.refl _ | apply Bel.ext | apply Bel.alloc | apply Bel.drew))); rintro ee ww ⟨rfl, _, rfl⟩) | (go_at_call 54; refine Calls.mono (HT.out _) ?_; rintro ee ww ⟨rfl, rfl⟩) | (go_at_call 55; refine Calls.mono (HA.out _ (hu.bel ?_)) ?_; (focus (repeat (first | exact Bel.refl _ | apply Bel.ext | apply Bel.alloc | apply Bel.drew))); rintro ee ww ⟨rfl, _, rfl⟩))
    go_ret2
    refine Ret.mk ?_ (?_ : Bel _ _)
    · exact H.out
    · (repeat (first | exact Bel.refl _ | apply Bel.ext | apply Bel.alloc | apply Bel.drew | refine Bel.set ?_ (by first | (simp; done) | (simp [go_sem]; done) | omega) _))
/-! windows that are long enough -/
theorem long_pred (l x y : Int) (B : Nat) (w : World) (hB : B < w.heap.size) (h0 : w.cell? ⟨B, 0, none⟩ = some (.int .i64 l)) (hx : 0 ≤ x ∧ x ≤ 10000000 ∧ 0 ≤ y ∧ y ≤ 10000000) :
    Calls Try.prog 58 (#[.agg #[.int .i64 x, .int .i64 y]] ++ #[.pointer (some ⟨B, 0, none⟩)]) w (Ret (.bool (longP l (x, y))) w) := by
  refine hide_ret fun v H => ?_
  obtain ⟨x1, x2, y1, y2⟩ := hx
  show Calls Try.prog 58 #[.agg #[.int .i64 x, .int .i64 y], .pointer (some ⟨B, 0, none⟩)] w _
  go_enter Try.func58, Try.ntmps58
  go_wp2
  all_goals go_ret
  all_goals refine Ret.mk ?_ (?_ : Bel _ _)
  all_goals first | (repeat (first | exact Bel.refl _ | apply Bel.ext | apply Bel.alloc | apply Bel.drew | refine Bel.set ?_ (by first | (simp; done) | (simp [go_sem]; done) | omega) _)); done | exact H.out | (rw [← H.out]; simp [longP]; done) | (rw [← H.out]; simp [longP]; omega)

set_option maxHeartbeats 2000000 in
theorem LongWindows_c (u : Value) (xs : List (Int × Int)) (l : Int) (w : World) (hu : Rd cel2 w u xs) :
    Calls Try.prog 36 #[u, .int .i64 l] w (RetRow 44 2 (fun v => .tuple #[v, .int .i64 (longL l xs).2]) (longL l xs).1.length (cel2.row (longL l xs).1) w) := by
  generalize hR : RetRow _ _ _ _ _ w = R
  have HR := Lib.hid hR
  clear hR
  have HV := Lib.hid (fun w hu => ValidWindows_c u xs w hu)
  have HT := Lib.hid (fun w => in_c l 1 10000001 w)
  unfold longL at HR
  rcases h1 : windowsB xs with _ | _ <;> rcases h2 : inB l 1 10000001 with _ | _ <;> simp only [h1, h2, Bool.not_true, Bool.not_false, Bool.true_or, Bool.or_true, Bool.false_or, Bool.or_false, Bool.true_and, Bool.and_true, Bool.false_and, Bool.and_false, if_true, if_false, Bool.false_eq_true] at HR HV HT
  case true.true =>
    have eg : ∀ args w, (callFunc 58 args).run Try.prog w = .ok (.enter 58 args) w := enters_of Try.func58 (by kernel_rfl) rfl
    have hcon := chosenWindow_c (longP l) 58 #[.pointer (some ⟨w.heap.size, 0, none⟩)] eg u xs
    have hmem : ∀ x y, (x, y) ∈ xs → 0 ≤ x ∧ x ≤ 10000000 ∧ 0 ≤ y ∧ y ≤ 10000000 := fun x y hm => by
      obtain ⟨k, hk⟩ := List.mem_iff_getElem?.1 hm
      have := windowsB_get h1 hk; dsimp only at this; omega
    have hcon2 : ∀ x, Bel (w.alloc (.cells #[.int .i64 l] 2)) x → Calls Try.prog 57 #[u, .func (.func 58) #[] #[.pointer (some ⟨w.heap.size, 0, none⟩)]] x (RetRow 44 2 (fun v => v) (xs.filter (longP l)).length (cel2.row (xs.filter (longP l))) x) := fun x hx =>
      hcon x (hu.bel (Below.trans (by (repeat (first | exact Bel.refl _ | apply Bel.ext | apply Bel.alloc | apply Bel.drew | refine Bel.set ?_ (by first | (simp; done) | (simp [go_sem]; done) | omega) _)) : Bel w (w.alloc (.cells #[.int .i64 l] 2))) (Below.mono hx (by simp)))) (by have := windowsB_len h1; omega)
        (fun a b W hm hW => long_pred l a b w.heap.size W (by have := hW.size; have := hx.size; simp at *; omega)
          (by rw [Below.cell hW (p := ⟨w.heap.size, 0, none⟩) (by have := hx.size; simp at *; omega), Below.cell hx (p := ⟨w.heap.size, 0, none⟩) (by simp)]; simp [go_sem]) (hmem a b hm))
    have HC := Lib.hid hcon2
    clear hcon2 hcon hmem h1 h2
    go_enter Try.func36, Try.ntmps36
    go_wp2_with (first | (go_at_call 17; refine Calls.mono (HV.out _ (hu.bel ?_)) ?_; (focus (repeat (first | exact Bel.refl _ | apply Bel.ext | apply Bel.alloc | apply Bel.drew))); rintro ee ww ⟨rfl, _, rfl⟩) | (go_at_call 51; refine Calls.mono (HT.out _) ?_; rintro ee ww ⟨rfl, rfl⟩) | (go_at_call 57; refine Calls.mono (HC.out _ ?_) ?_; (focus (repeat (first | exact Bel.refl _ | apply Bel.ext | apply Bel.alloc | apply Bel.drew | refine Bel.set ?_ (by first | (simp; done) | (simp [go_sem]; done) | omega) _))); rintro ee ww ⟨v0, g0, rfl, rfl, hown⟩))
    rw [← HR.out]
    refine RetRow.mk' rfl (by (repeat (first | exact Bel.refl _ | apply Bel.ext | apply Bel.alloc | apply Bel.drew | refine Bel.set ?_ (by first | (simp; done) | (simp [go_sem]; done) | omega) _)) : Bel _ _) ?_
    refine own_mono hown (bel_size ?_)
    (repeat (first | exact Bel.refl _ | apply Bel.ext | apply Bel.alloc | apply Bel.drew | refine Bel.set ?_ (by first | (simp; done) | (simp [go_sem]; done) | omega) _))
  all_goals
    clear h1 h2
    go_enter Try.func36, Try.ntmps36
    go_wp2_with (first | (go_at_call 17; refine Calls.mono (HV.out _ (hu.bel ?_)) ?_; (focus (repeat (first | exact Bel.refl _ | apply Bel.ext | apply Bel.alloc | apply Bel.drew))); rintro ee ww ⟨rfl, _, rfl⟩) | (go_at_call 51; refine Calls.mono (HT.out _) ?_; rintro ee ww ⟨rfl, rfl⟩))
    rw [← HR.out]
    exact RetRow.mk' rfl (by (repeat (first | exact Bel.refl _ | apply Bel.ext | apply Bel.alloc | apply Bel.drew | refine Bel.set ?_ (by first | (simp; done) | (simp [go_sem]; done) | omega) _)) : Bel _ _) (World.ownsRow_nil _ _ _ _)
set_option maxHeartbeats 4000000 in
theorem sLongWindows_c (u : Value) (xs : List (Int × Int)) (l : Int) (w : World) (hu : Rd cel2 w u xs) :
    Calls Try.prog 35 #[u, .int .i64 l] w (RetRow 44 2 (fun v => .tuple #[v, .int .i64 (longL l xs).2]) (longL l xs).1.length (cel2.row (longL l xs).1) w) := by
  generalize hR : RetRow _ _ _ _ _ w = R
  have HR := Lib.hid hR
  clear hR
  have hu' := hu
  obtain ⟨a, n, c, rfl, hs⟩ := hu'.sl
  have hcap := hs.le; have hmax := hs.cap
  unfold maxLen at hmax
  have HL := Lib.hid hs.len
  have HV := Lib.hid (fun w hu => l15Ok_c (.slice a n c) xs w hu)
  have HT := Lib.hid (fun w => l00In_c l 1 10000001 w)
  unfold longL at HR
  rcases h1 : windowsB xs with _ | _ <;> rcases h2 : inB l 1 10000001 with _ | _ <;> simp only [h1, h2, Bool.not_true, Bool.not_false, Bool.true_or, Bool.or_true, Bool.false_or, Bool.or_false, Bool.true_and, Bool.and_true, Bool.false_and, Bool.and_false, if_true, if_false, Bool.false_eq_true] at HR HV HT
  case true.true =>
    have hget : ∀ (k : Nat) (x y : Int), xs[k]? = some (x, y) → 0 ≤ x ∧ x ≤ 10000000 ∧ 0 ≤ y ∧ y ≤ 10000000 := fun k x y hx => by have := windowsB_get h1 hx; omega
    have hlen := windowsB_len h1
    rw [← HL.out] at hlen
    clear h1 h2
    go_enter Try.func35, Try.ntmps35
    go_wp2_with (first | (go_at_call 41; refine Calls.mono (HV.out _ (hu.bel ?_)) ?_; (focus (repeat (first | exact Bel.refl _ | apply Bel.ext | apply Bel.alloc | apply Bel.drew))); rintro ee ww ⟨rfl, _, rfl⟩) | (go_at_call 50; refine Calls.mono (HT.out _) ?_; rintro ee ww ⟨rfl, rfl⟩))
    go_loopw [6, 7] (fun o i wr => ∃ k : Nat, k ≤ n ∧ i = .int .i64 k ∧ Bel w wr ∧ Hid (wr.ownsRow w.heap.size 44 2 o ((xs.take k).filter (longP l)).length (cel2.row ((xs.take k).filter (longP l))))) (fun _ i _ => n - (intOf i).toNat)
    case atStart => exact ⟨0, by omega, by go_num, by (repeat (first | exact Bel.refl _ | apply Bel.ext | apply Bel.alloc | apply Bel.drew | refine Bel.set ?_ (by first | (simp; done) | (simp [go_sem]; done) | omega) _)), Lib.hid (by refine own_empty _ _ _ _ ?_; exact (by (repeat (first | exact Bel.refl _ | apply Bel.ext | apply Bel.alloc | apply Bel.drew | refine Bel.set ?_ (by first | (simp; done) | (simp [go_sem]; done) | omega) _)) : Bel w _).size)⟩
    case round =>
      obtain ⟨k, hk, rfl, hbel, hown⟩ := hrel
      obtain ⟨g', rfl⟩ := ext_ex hbel
      by_cases hlt : k < n
      · obtain ⟨b, off, rfl, hb⟩ := hs.base hlt
        obtain ⟨x, y, hx, hc0, hc1⟩ := hs.at2 hlt
        obtain ⟨b1, b2, b3, b4⟩ := hget k x y hx.out
        have hfl := filter_take_len (longP l) xs k
        have w1 : IntKind.i64.wrap (y - x) = y - x := IntWalk.i64_in _ (by omega)
        have w2 : IntKind.i64.wrap (y - x + 1) = y - x + 1 := IntWalk.i64_in _ (by omega)
        clear hget
        by_cases h3 : l ≤ y - x + 1
        · have HF := Lib.hid (filter_take_pos (p := longP l) hx.out (by simp [longP]; exact h3))
          generalize (xs.take k).filter (longP l) = ys at *
          go_wp2_with fail
          refine region_ext (by kernel_rfl) (by kernel_rfl) ?_
          repeat (go_big_quiet_step (fail))
          refine wpQuiet_nil ?_
          rintro _ ⟨_, rfl⟩
          go_wp2_with (first | (at_builtin; refine wpList_append_new rfl (.tmp 35) (.tmp 40) 25 44 2 16 rfl appWindow (by decide) w _ _ _ 1 [.int .i64 x, .int .i64 y] rfl (by first | with_reducible rfl | (simp [go_sem]; done)) rfl (by intro u hu; simp at hu; first | (subst hu; rfl) | (rcases hu with rfl | rfl <;> rfl) | (rcases hu with rfl | rfl | rfl <;> rfl)) (own_bel hown.out ?_) ?_ (by omega) (by omega) ?_; (focus (repeat (first | exact Bel.refl _ | apply Bel.ext | apply Bel.alloc | apply Bel.drew))); (focus (repeat (first | exact Bel.refl _ | apply Bel.ext | apply Bel.alloc | apply Bel.drew))); intro v2 g2 hown2 hgr2))
          go_roundw
          case rel =>
            refine ⟨k + 1, by omega, by go_num, by (repeat (first | exact Bel.refl _ | apply Bel.ext | apply Bel.alloc | apply Bel.drew | refine Bel.set ?_ (by first | (simp; done) | (simp [go_sem]; done) | omega) _)), Lib.hid ?_⟩
            rw [HF.out, Cel.row_append, Cel.row_one, List.length_append]; exact hown2
          case measure => simp [intOf]; omega
        · have HF := Lib.hid (filter_take_neg (p := longP l) hx.out (by simp [longP]; omega))
          generalize (xs.take k).filter (longP l) = ys at *
          go_wp2_with fail
          refine region_ext (by kernel_rfl) (by kernel_rfl) ?_
          repeat (go_big_quiet_step (fail))
          refine wpQuiet_nil ?_
          rintro _ ⟨_, rfl⟩
          go_wp2
          go_roundw
          case rel =>
            refine ⟨k + 1, by omega, by go_num, by (repeat (first | exact Bel.refl _ | apply Bel.ext | apply Bel.alloc | apply Bel.drew | refine Bel.set ?_ (by first | (simp; done) | (simp [go_sem]; done) | omega) _)), Lib.hid ?_⟩
            rw [HF.out]; exact own_bel hown.out (by (repeat (first | exact Bel.refl _ | apply Bel.ext | apply Bel.alloc | apply Bel.drew | refine Bel.set ?_ (by first | (simp; done) | (simp [go_sem]; done) | omega) _)))
          case measure => simp [intOf]; omega
      · have hk' : k = n := by omega
        subst hk'
        have hO := hown.out
        rw [List.take_of_length_le (by rw [HL.out]; exact Nat.le_refl _)] at hO
        have HO := Lib.hid hO
        clear hO hown
        go_wp2
        rw [← HR.out]
        exact RetRow.mk' rfl (by (repeat (first | exact Bel.refl _ | apply Bel.ext | apply Bel.alloc | apply Bel.drew | refine Bel.set ?_ (by first | (simp; done) | (simp [go_sem]; done) | omega) _)) : Bel _ _) HO.out
  all_goals
    clear h1 h2
    go_enter Try.func35, Try.ntmps35
    go_wp2_with (first | (go_at_call 41; refine Calls.mono (HV.out _ (hu.bel ?_)) ?_; (focus (repeat (first | exact Bel.refl _ | apply Bel.ext | apply Bel.alloc | apply Bel.drew))); rintro ee ww ⟨rfl, _, rfl⟩) | (go_at_call 50; refine Calls.mono (HT.out _) ?_; rintro ee ww ⟨rfl, rfl⟩))
    rw [← HR.out]
    exact RetRow.mk' rfl (by (repeat (first | exact Bel.refl _ | apply Bel.ext | apply Bel.alloc | apply Bel.drew | refine Bel.set ?_ (by first | (simp; done) | (simp [go_sem]; done) | omega) _)) : Bel _ _) (World.ownsRow_nil _ _ _ _)
end Go.Proofs.Ytehfbpdjhkdchaa
