/- The greatest worth; the greatest worth without a star: both sides. -/
import Derived.Test.YthahkoclkjfkdaaTab3
import Derived.Test.YthahkoclkjfkdaaTab4
import Derived.Test.YthahkoclkjfkdaaAssn2
import Derived.Deep.RegionWith
namespace Go.Proofs.Ythahkoclkjfkdaa
open Go.RowKit

def greatI (ws : List (List Int)) : Int × Int := if !worthsB ws then (0, 1) else ((tabAt ws 0).getD 0 0, 0)
def withoutI (ws : List (List Int)) (s : Int) : Int × Int := if !worthsB ws then (0, 1) else if !inB s 0 ((wid ws : Int) - 1) then (0, 2) else ((tabAt ws 0).getD (2 ^ s.toNat) 0, 0)
/-- the first row of a table, as a walk reads it -/
theorem tab_first {A : World} {v : Value} {ws : List (List Int)} (h : RdN A v (tabL ws)) {k : Nat} (hk : k < 2 ^ wid ws) :
    ∃ b o n c b2 o2 n2 c2 x, v = .slice (some ⟨b, o, none⟩) n c ∧ (0 : Int) < n ∧ n ≤ c ∧ c ≤ maxLen ∧ A.cell? ⟨b, o, none⟩ = some (.slice (some ⟨b2, o2, none⟩) n2 c2) ∧ (k : Int) < n2 ∧ n2 ≤ c2 ∧ c2 ≤ maxLen ∧
      A.cell? ⟨b2, o2 + k, none⟩ = some (.int .i64 x) ∧ (tabAt ws 0).getD k 0 = x ∧ n2 = 2 ^ wid ws := by
  obtain ⟨a, n, c, rfl, hs⟩ := h
  have hl := hs.len
  rw [tabL_len] at hl
  obtain ⟨b, o, rfl, hb⟩ := hs.base (k := 0) (by omega)
  obtain ⟨ai, ni, ci, xs, hx, hc, hsi⟩ := hs.row (k := 0) (by omega)
  have e := hx.out
  rw [tabL_get ws (Nat.zero_le _)] at e
  cases e
  have hni := hsi.len
  rw [tabAt_len] at hni
  obtain ⟨bi, oi, rfl, hbi⟩ := hsi.base (k := k) (by omega)
  obtain ⟨x, hxx, hcx⟩ := hsi.at1 (k := k) (by omega)
  exact ⟨b, o, n, c, bi, oi, ni, ci, x, rfl, by omega, hs.le, hs.cap, hc, by omega, hsi.le, hsi.cap, hcx, getD_of hxx.out, hni⟩
set_option maxHeartbeats 1000000 in
theorem GreatestWorth_c (u : Value) (ws : List (List Int)) (w : World) (hu : RdN w u ws) :
    Calls Try.prog 22 #[u] w (Ret (.tuple #[.int .i64 (greatI ws).1, .int .i64 (greatI ws).2]) w) := by
  refine hide_ret fun v H => ?_
  have HV := Lib.hid (fun w hu => ValidWorths_c u ws w hu)
  have hT := fun h w hu => table_c u ws h w hu
  unfold greatI at H
  rcases h1 : worthsB ws with _ | _ <;> rw [h1] at H HV
  · clear hT h1
    go_enter Try.func22, Try.ntmps22
    go_wp2_with (first | (go_at_call 15; refine Calls.mono (HV.out _ (hu.bel ?_)) ?_; (focus (repeat (first | with_reducible exact Bel.refl _ | with_reducible assumption | apply Bel.ext | apply Bel.alloc | apply Bel.drew | exact Bel.refl _))); rintro ee ww ⟨rfl, _, rfl⟩))
    go_ret2
    refine Ret.mk ?_ (?_ : Bel _ _)
    · rw [← H.out]; simp
    · (repeat (first | with_reducible exact Bel.refl _ | with_reducible assumption | apply Bel.ext | apply Bel.alloc | apply Bel.drew | exact Bel.refl _ | refine Bel.set ?_ (by first | (simp; done) | (simp [go_sem]; done) | omega) _))
  · have HT := Lib.hid (hT h1)
    have HF := Lib.hid (fun A v (h : RdN A v (tabL ws)) => tab_first h (k := 0) (Nat.two_pow_pos _))
    clear hT h1
    go_enter Try.func22, Try.ntmps22
    go_wp2_with (first | (go_at_call 15; refine Calls.mono (HV.out _ (hu.bel ?_)) ?_; (focus (repeat (first | with_reducible exact Bel.refl _ | with_reducible assumption | apply Bel.ext | apply Bel.alloc | apply Bel.drew | exact Bel.refl _))); rintro ee ww ⟨rfl, g1, rfl⟩) | (go_at_call 47; refine Calls.mono (HT.out _ (hu.bel ?_)) ?_; (focus (repeat (first | with_reducible exact Bel.refl _ | with_reducible assumption | apply Bel.ext | apply Bel.alloc | apply Bel.drew | exact Bel.refl _))); rintro ee ww ⟨v0, g0, rfl, rfl, hN⟩; have hwA : Bel w (ext (ext w g1) g0) := (by (repeat (first | with_reducible exact Bel.refl _ | with_reducible assumption | apply Bel.ext | apply Bel.alloc | apply Bel.drew | exact Bel.refl _ | refine Bel.set ?_ (by first | (simp; done) | (simp [go_sem]; done) | omega) _))); generalize ext (ext w g1) g0 = A at *; obtain ⟨b, o, n, c, b2, o2, n2, c2, x, rfl, q1, q2, q3, q4, q5, q6, q7, q8, q9, q10⟩ := HF.out _ _ hN; unfold maxLen at q3 q7; rw [q9] at H; rw [Nat.add_zero] at q8; clear q9 q10 hN))
    go_ret2
    refine Ret.mk ?_ (?_ : Bel _ _)
    · rw [← H.out]; simp
    · exact hwA
set_option maxHeartbeats 1000000 in
theorem sGreatestWorth_c (u : Value) (ws : List (List Int)) (w : World) (hu : RdN w u ws) :
    Calls Try.prog 21 #[u] w (Ret (.tuple #[.int .i64 (greatI ws).1, .int .i64 (greatI ws).2]) w) := by
  refine hide_ret fun v H => ?_
  have HV := Lib.hid (fun w hu => l17Ok_c u ws w hu)
  have hT := fun h w hu => l17Table_c u ws h w hu
  unfold greatI at H
  rcases h1 : worthsB ws with _ | _ <;> rw [h1] at H HV
  · clear hT h1
    go_enter Try.func21, Try.ntmps21
    go_wp2_with (first | (go_at_call 39; refine Calls.mono (HV.out _ (hu.bel ?_)) ?_; (focus (repeat (first | with_reducible exact Bel.refl _ | with_reducible assumption | apply Bel.ext | apply Bel.alloc | apply Bel.drew | exact Bel.refl _))); rintro ee ww ⟨rfl, _, rfl⟩))
    go_ret2
    refine Ret.mk ?_ (?_ : Bel _ _)
    · rw [← H.out]; simp
    · (repeat (first | with_reducible exact Bel.refl _ | with_reducible assumption | apply Bel.ext | apply Bel.alloc | apply Bel.drew | exact Bel.refl _ | refine Bel.set ?_ (by first | (simp; done) | (simp [go_sem]; done) | omega) _))
  · have HT := Lib.hid (hT h1)
    have HF := Lib.hid (fun A v (h : RdN A v (tabL ws)) => tab_first h (k := 0) (Nat.two_pow_pos _))
    clear hT h1
    go_enter Try.func21, Try.ntmps21
    go_wp2_with (first | (go_at_call 39; refine Calls.mono (HV.out _ (hu.bel ?_)) ?_; (focus (repeat (first | with_reducible exact Bel.refl _ | with_reducible assumption | apply Bel.ext | apply Bel.alloc | apply Bel.drew | exact Bel.refl _))); rintro ee ww ⟨rfl, g1, rfl⟩) | (go_at_call 46; refine Calls.mono (HT.out _ (hu.bel ?_)) ?_; (focus (repeat (first | with_reducible exact Bel.refl _ | with_reducible assumption | apply Bel.ext | apply Bel.alloc | apply Bel.drew | exact Bel.refl _))); rintro ee ww ⟨v0, g0, rfl, rfl, hN⟩; have hwA : Bel w (ext (ext w g1) g0) := (by (repeat (first | with_reducible exact Bel.refl _ | with_reducible assumption | apply Bel.ext | apply Bel.alloc | apply Bel.drew | exact Bel.refl _ | refine Bel.set ?_ (by first | (simp; done) | (simp [go_sem]; done) | omega) _))); generalize ext (ext w g1) g0 = A at *; obtain ⟨b, o, n, c, b2, o2, n2, c2, x, rfl, q1, q2, q3, q4, q5, q6, q7, q8, q9, q10⟩ := HF.out _ _ hN; unfold maxLen at q3 q7; rw [q9] at H; rw [Nat.add_zero] at q8; clear q9 q10 hN))
    go_ret2
    refine Ret.mk ?_ (?_ : Bel _ _)
    · rw [← H.out]; simp
    · exact hwA
set_option maxHeartbeats 2000000 in
theorem WithoutStar_c (u : Value) (ws : List (List Int)) (s : Int) (w : World) (hu : RdN w u ws) :
    Calls Try.prog 24 #[u, .int .i64 s] w (Ret (.tuple #[.int .i64 (withoutI ws s).1, .int .i64 (withoutI ws s).2]) w) := by
  refine hide_ret fun v H => ?_
  have HV := Lib.hid (fun w hu => ValidWorths_c u ws w hu)
  have hT := fun h w hu => table_c u ws h w hu
  have hfine := worthsB_fine (xss := ws)
  unfold withoutI at H
  have hu' := hu
  obtain ⟨a, n, c, rfl, hs⟩ := hu
  have hcap := hs.le; have hmax := hs.cap
  unfold maxLen at hmax
  have HL := Lib.hid hs.len
  rcases h1 : worthsB ws with _ | _ <;> rw [h1] at H HV
  · clear hT h1 hfine
    go_enter Try.func24, Try.ntmps24
    go_wp2_with (first | (go_at_call 15; refine Calls.mono (HV.out _ (hu'.bel ?_)) ?_; (focus (repeat (first | with_reducible exact Bel.refl _ | with_reducible assumption | apply Bel.ext | apply Bel.alloc | apply Bel.drew | exact Bel.refl _))); rintro ee ww ⟨rfl, _, rfl⟩))
    go_ret2
    refine Ret.mk ?_ (?_ : Bel _ _)
    · rw [← H.out]; simp
    · (repeat (first | with_reducible exact Bel.refl _ | with_reducible assumption | apply Bel.ext | apply Bel.alloc | apply Bel.drew | exact Bel.refl _ | refine Bel.set ?_ (by first | (simp; done) | (simp [go_sem]; done) | omega) _))
  obtain ⟨f1, f2, f3, f4, -⟩ := hfine h1
  rw [← HL.out] at f1 f2
  have HT := Lib.hid (hT h1)
  clear hT h1 hfine
  obtain ⟨b, off, rfl, hb⟩ := hs.base (k := 0) (by omega)
  obtain ⟨a0, n0, c0, xs0, hx0, hd0, hs0⟩ := hs.row (k := 0) (by omega)
  rw [Nat.add_zero] at hd0
  have hl0 := hs0.len
  have hci0 := hs0.le; have hcm0 := hs0.cap
  unfold maxLen at hcm0
  have HW := Lib.hid (show wid ws = n0 by rw [wid_of hx0.out, hl0])
  rw [HW.out] at f3 f4 H
  clear hl0
  have z0 : (0 : Int) < n := by omega
  have w0 : IntKind.i64.wrap (n0 : Int) = (n0 : Int) := IntWalk.i64_in _ (by omega)
  have w1 : IntKind.i64.wrap ((n0 : Int) - 1) = (n0 : Int) - 1 := IntWalk.i64_in _ (by omega)
  have HI := Lib.hid (fun w => in_c s 0 ((n0 : Int) - 1) w)
  rcases h2 : inB s 0 ((n0 : Int) - 1) with _ | _ <;> rw [h2] at H HI
  · clear h2
    go_enter Try.func24, Try.ntmps24
    go_wp2_with (first | (go_at_call 15; refine Calls.mono (HV.out _ (hu'.bel ?_)) ?_; (focus (repeat (first | with_reducible exact Bel.refl _ | with_reducible assumption | apply Bel.ext | apply Bel.alloc | apply Bel.drew | exact Bel.refl _))); rintro ee ww ⟨rfl, _, rfl⟩) | (go_at_call 44; refine Calls.mono (HI.out _) ?_; rintro ee ww ⟨rfl, rfl⟩) | (go_at_call 48; refine (countI_c _ _ _ (by omega) _).mono ?_; rintro ee ww ⟨rfl, rfl⟩))
    go_ret2
    refine Ret.mk ?_ (?_ : Bel _ _)
    · rw [← H.out]; simp
    · (repeat (first | with_reducible exact Bel.refl _ | with_reducible assumption | apply Bel.ext | apply Bel.alloc | apply Bel.drew | exact Bel.refl _ | refine Bel.set ?_ (by first | (simp; done) | (simp [go_sem]; done) | omega) _))
  obtain ⟨s1, s2⟩ := inB_iff.1 h2
  obtain ⟨s, rfl⟩ : ∃ j : Nat, s = j := ⟨s.toNat, by omega⟩
  have hlt : 2 ^ s < 2 ^ wid ws := Nat.pow_lt_pow_right (by omega) (by rw [HW.out]; omega)
  have HF := Lib.hid (fun A v (h : RdN A v (tabL ws)) => tab_first h hlt)
  have p1 := pow64 (k := s) (by omega)
  rw [Int.toNat_natCast] at H
  have hpk : (0 : Int) ≤ ((2 ^ s : Nat) : Int) := Int.natCast_nonneg _
  obtain ⟨ix, hix⟩ : ∃ ix, ix = 2 ^ s := ⟨_, rfl⟩
  have ws1 : IntKind.i64.wrap (s : Int) = (s : Int) := IntWalk.i64_in _ (by omega)
  rw [← hix] at H HF p1 hpk
  clear hix hlt h2
  go_enter Try.func24, Try.ntmps24
  go_wp2_with (first | (go_at_call 15; refine Calls.mono (HV.out _ (hu'.bel ?_)) ?_; (focus (repeat (first | with_reducible exact Bel.refl _ | with_reducible assumption | apply Bel.ext | apply Bel.alloc | apply Bel.drew | exact Bel.refl _))); rintro ee ww ⟨rfl, g1, rfl⟩) | (go_at_call 44; refine Calls.mono (HI.out _) ?_; rintro ee ww ⟨rfl, rfl⟩) | (go_at_call 48; refine (countI_c _ _ _ (by omega) _).mono ?_; rintro ee ww ⟨rfl, rfl⟩))
  go_region_with (first | (go_at_call 47; refine Calls.mono (HT.out _ (hu'.bel ?_)) ?_; (focus (repeat (first | with_reducible exact Bel.refl _ | with_reducible assumption | apply Bel.ext | apply Bel.alloc | apply Bel.drew | exact Bel.refl _))); rintro ee A ⟨v0, g0, rfl, hww, hN⟩; rw [← hww] at hN; have hwA : Bel w A := (by rw [hww]; (repeat (first | with_reducible exact Bel.refl _ | with_reducible assumption | apply Bel.ext | apply Bel.alloc | apply Bel.drew | exact Bel.refl _ | refine Bel.set ?_ (by first | (simp; done) | (simp [go_sem]; done) | omega) _))); clear hww; obtain ⟨b, o, n, c, b2, o2, n2, c2, x, rfl, q1, q2, q3, q4, q5, q6, q7, q8, q9, q10⟩ := HF.out _ _ hN; unfold maxLen at q3 q7; rw [q9] at H; clear q9 q10 hN))
  all_goals go_wp2
  all_goals go_ret2
  all_goals refine Ret.mk ?_ (?_ : Bel _ _)
  all_goals first | exact hwA | (rw [← H.out]; simp; done) | exact H.out | (rw [← H.out]; rfl)
set_option maxHeartbeats 2000000 in
theorem sWithoutStar_c (u : Value) (ws : List (List Int)) (s : Int) (w : World) (hu : RdN w u ws) :
    Calls Try.prog 23 #[u, .int .i64 s] w (Ret (.tuple #[.int .i64 (withoutI ws s).1, .int .i64 (withoutI ws s).2]) w) := by
  refine hide_ret fun v H => ?_
  have HV := Lib.hid (fun w hu => l17Ok_c u ws w hu)
  have hT := fun h w hu => l17Table_c u ws h w hu
  have hfine := worthsB_fine (xss := ws)
  unfold withoutI at H
  have hu' := hu
  obtain ⟨a, n, c, rfl, hs⟩ := hu
  have hcap := hs.le; have hmax := hs.cap
  unfold maxLen at hmax
  have HL := Lib.hid hs.len
  rcases h1 : worthsB ws with _ | _ <;> rw [h1] at H HV
  · clear hT h1 hfine
    go_enter Try.func23, Try.ntmps23
    go_wp2_with (first | (go_at_call 39; refine Calls.mono (HV.out _ (hu'.bel ?_)) ?_; (focus (repeat (first | with_reducible exact Bel.refl _ | with_reducible assumption | apply Bel.ext | apply Bel.alloc | apply Bel.drew | exact Bel.refl _))); rintro ee ww ⟨rfl, _, rfl⟩))
    go_ret2
    refine Ret.mk ?_ (?_ : Bel _ _)
    · rw [← H.out]; simp
    · (repeat (first | with_reducible exact Bel.refl _ | with_reducible assumption | apply Bel.ext | apply Bel.alloc | apply Bel.drew | exact Bel.refl _ | refine Bel.set ?_ (by first | (simp; done) | (simp [go_sem]; done) | omega) _))
  obtain ⟨f1, f2, f3, f4, -⟩ := hfine h1
  rw [← HL.out] at f1 f2
  have HT := Lib.hid (hT h1)
  clear hT h1 hfine
  obtain ⟨b, off, rfl, hb⟩ := hs.base (k := 0) (by omega)
  obtain ⟨a0, n0, c0, xs0, hx0, hd0, hs0⟩ := hs.row (k := 0) (by omega)
  rw [Nat.add_zero] at hd0
  have hl0 := hs0.len
  have hci0 := hs0.le; have hcm0 := hs0.cap
  unfold maxLen at hcm0
  have HW := Lib.hid (show wid ws = n0 by rw [wid_of hx0.out, hl0])
  rw [HW.out] at f3 f4 H
  clear hl0
  have z0 : (0 : Int) < n := by omega
  have w0 : IntKind.i64.wrap (n0 : Int) = (n0 : Int) := IntWalk.i64_in _ (by omega)
  have w1 : IntKind.i64.wrap ((n0 : Int) - 1) = (n0 : Int) - 1 := IntWalk.i64_in _ (by omega)
  have HI := Lib.hid (fun w => l00In_c s 0 ((n0 : Int) - 1) w)
  rcases h2 : inB s 0 ((n0 : Int) - 1) with _ | _ <;> rw [h2] at H HI
  · clear h2
    go_enter Try.func23, Try.ntmps23
    go_wp2_with (first | (go_at_call 39; refine Calls.mono (HV.out _ (hu'.bel ?_)) ?_; (focus (repeat (first | with_reducible exact Bel.refl _ | with_reducible assumption | apply Bel.ext | apply Bel.alloc | apply Bel.drew | exact Bel.refl _))); rintro ee ww ⟨rfl, _, rfl⟩) | (go_at_call 42; refine Calls.mono (HI.out _) ?_; rintro ee ww ⟨rfl, rfl⟩))
    go_ret2
    refine Ret.mk ?_ (?_ : Bel _ _)
    · rw [← H.out]; simp
    · (repeat (first | with_reducible exact Bel.refl _ | with_reducible assumption | apply Bel.ext | apply Bel.alloc | apply Bel.drew | exact Bel.refl _ | refine Bel.set ?_ (by first | (simp; done) | (simp [go_sem]; done) | omega) _))
  obtain ⟨s1, s2⟩ := inB_iff.1 h2
  obtain ⟨s, rfl⟩ : ∃ j : Nat, s = j := ⟨s.toNat, by omega⟩
  have hlt : 2 ^ s < 2 ^ wid ws := Nat.pow_lt_pow_right (by omega) (by rw [HW.out]; omega)
  have HF := Lib.hid (fun A v (h : RdN A v (tabL ws)) => tab_first h hlt)
  have p1 := pow64 (k := s) (by omega)
  rw [Int.toNat_natCast] at H
  have hpk : (0 : Int) ≤ ((2 ^ s : Nat) : Int) := Int.natCast_nonneg _
  obtain ⟨ix, hix⟩ : ∃ ix, ix = 2 ^ s := ⟨_, rfl⟩
  have ws1 : IntKind.i64.wrap (s : Int) = (s : Int) := IntWalk.i64_in _ (by omega)
  rw [← hix] at H HF p1 hpk
  clear hix hlt h2
  go_enter Try.func23, Try.ntmps23
  go_wp2_with (first | (go_at_call 39; refine Calls.mono (HV.out _ (hu'.bel ?_)) ?_; (focus (repeat (first | with_reducible exact Bel.refl _ | with_reducible assumption | apply Bel.ext | apply Bel.alloc | apply Bel.drew | exact Bel.refl _))); rintro ee ww ⟨rfl, g1, rfl⟩) | (go_at_call 42; refine Calls.mono (HI.out _) ?_; rintro ee ww ⟨rfl, rfl⟩) | (go_at_call 46; refine Calls.mono (HT.out _ (hu'.bel ?_)) ?_; (focus (repeat (first | with_reducible exact Bel.refl _ | with_reducible assumption | apply Bel.ext | apply Bel.alloc | apply Bel.drew | exact Bel.refl _))); rintro ee ww ⟨v0, g0, rfl, rfl, hN⟩; have hwA : Bel w (ext (ext w g1) g0) := (by (repeat (first | with_reducible exact Bel.refl _ | with_reducible assumption | apply Bel.ext | apply Bel.alloc | apply Bel.drew | exact Bel.refl _ | refine Bel.set ?_ (by first | (simp; done) | (simp [go_sem]; done) | omega) _))); generalize ext (ext w g1) g0 = A at *; obtain ⟨b, o, n, c, b2, o2, n2, c2, x, rfl, q1, q2, q3, q4, q5, q6, q7, q8, q9, q10⟩ := HF.out _ _ hN; unfold maxLen at q3 q7; rw [q9] at H; clear q9 q10 hN))
  go_ret2
  refine Ret.mk ?_ (?_ : Bel _ _)
  · rw [← H.out]; simp
  · exact hwA
end Go.Proofs.Ythahkoclkjfkdaa
