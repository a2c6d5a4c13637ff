/- What UnionWindows, MeetWindows, LessWindows and DarkTimes of the reference return. -/
import Derived.Test.YtdneffnnpjgnbabMade
import Derived.Test.YtdneffnnpjgnbabSetW
namespace Go.Proofs.Ytdneffnnpjgnbab
open Go.RowKit

theorem args_three {P : Program} {f : FuncId} {w : World} {Q : Ending → World → Prop} {v x y : Value} (u : Value) (_ : v = u) (c : Calls P f #[v, x, y] w Q) : Calls P f #[v, x, y] w Q := c

set_option maxHeartbeats 4000000 in
theorem l15Both_c (r : Int) (hr : r = 1 ∨ r = 2 ∨ r = 3) (u v : Value) (xs ys : List (Int × Int)) (w : World) (hu : Rd cel2 w u xs) (hv : Rd cel2 w v ys) :
    Calls Try.prog 20 #[u, v, .int .i64 r] w (RetRow 35 2 (fun v => .tuple #[v, .int .i64 (bothI r xs ys).2]) (bothI r xs ys).1.length (cel2.row (bothI r xs ys).1) w) := by
  generalize hR : RetRow _ _ _ _ _ w = R
  have HR := Lib.hid hR
  clear hR
  obtain ⟨a, n, c, rfl, hs⟩ := hu.sl
  obtain ⟨a', n', c', rfl, hs'⟩ := hv.sl
  have HV := Lib.hid (fun w hu => l15Ok_c (.slice a n c) xs w hu)
  have HV' := Lib.hid (fun w hu => l15Ok_c (.slice a' n' c') ys w hu)
  have HU := Lib.hid (fun x (hx : Bel w x) => hu.bel hx)
  have HU' := Lib.hid (fun x (hx : Bel w x) => hv.bel hx)
  clear hs hs' hu hv
  unfold bothI at HR
  rcases h1 : windowsB xs with _ | _ <;> rcases h2 : windowsB ys with _ | _ <;> simp only [h1, h2, Bool.not_true, Bool.not_false, Bool.true_or, Bool.or_true, Bool.false_or, Bool.or_false, Bool.true_and, Bool.and_true, Bool.false_and, Bool.and_false, if_true, if_false, Bool.false_eq_true] at HR HV HV'
  case true.true =>
    have v1 := vW_of h1
    have v2 := vW_of h2
    have l1 := windowsB_len h1
    have l2 := windowsB_len h2
    have HL := Lib.hid (fun W hb hb' => l15Made_c r hr (.slice a n c) (.slice a' n' c') xs ys (by omega) (by omega) (vW_bd v1) (vW_bd v2) W (HU.out W hb) (HU'.out W hb'))
    have hlen : (madeL r xs ys).length ≤ 120 := by have := madeL_len r xs ys; omega
    clear v1 v2 h1 h2 hr
    generalize madeL r xs ys = ls at HR HL hlen
    unfold few at HR
    rcases Nat.lt_or_ge 30 ls.length with h30 | h30
    all_goals
      go_enter Try.func20, Try.ntmps20
      go_wp2_with (first | (go_at_call 26; refine args_guard1 (u := .slice a n c) (by with_reducible rfl) ?_; refine Calls.mono (HV.out _ (HU.out _ ?_)) ?_; (focus (repeat (first | with_reducible exact Bel.refl _ | with_reducible assumption | apply Bel.ext | apply Bel.alloc | apply Bel.drew | exact Bel.refl _))); rintro ee ww ⟨rfl, _, rfl⟩) | (go_at_call 26; refine Calls.mono (HV'.out _ (HU'.out _ ?_)) ?_; (focus (repeat (first | with_reducible exact Bel.refl _ | with_reducible assumption | apply Bel.ext | apply Bel.alloc | apply Bel.drew | exact Bel.refl _))); rintro ee ww ⟨rfl, _, rfl⟩) | (go_at_call 27; refine Calls.mono (HL.out _ ?_ ?_) ?_; (focus (repeat (first | with_reducible exact Bel.refl _ | with_reducible assumption | apply Bel.ext | apply Bel.alloc | apply Bel.drew | exact Bel.refl _))); (focus (repeat (first | with_reducible exact Bel.refl _ | with_reducible assumption | apply Bel.ext | apply Bel.alloc | apply Bel.drew | exact Bel.refl _))); rintro ee ww ⟨vl, g3, rfl, rfl, hown⟩; obtain ⟨al, cl, rfl, -, -⟩ := own_len hown; have HO := Lib.hid hown; clear hown))
    · have hh := HR.out
      simp only [if_pos h30] at hh
      rw [← hh]
      exact RetRow.mk' rfl (by (repeat (first | with_reducible exact Bel.refl _ | with_reducible assumption | apply Bel.ext | apply Bel.alloc | apply Bel.drew | exact Bel.refl _ | refine Bel.set ?_ (by first | (simp; done) | (simp [go_sem]; done) | omega) _)) : Bel _ _) (World.ownsRow_nil _ _ _ _)
    · have hh := HR.out
      have hng : ¬ 30 < ls.length := by omega
      simp only [if_neg hng] at hh
      rw [← hh]
      refine RetRow.mk' (v := .slice al ls.length cl) rfl (by (repeat (first | with_reducible exact Bel.refl _ | with_reducible assumption | apply Bel.ext | apply Bel.alloc | apply Bel.drew | exact Bel.refl _ | refine Bel.set ?_ (by first | (simp; done) | (simp [go_sem]; done) | omega) _)) : Bel _ _) (own_mono HO.out ?_)
      exact (by (repeat (first | with_reducible exact Bel.refl _ | with_reducible assumption | apply Bel.ext | apply Bel.alloc | apply Bel.drew | exact Bel.refl _ | refine Bel.set ?_ (by first | (simp; done) | (simp [go_sem]; done) | omega) _)) : Bel w _).size
  all_goals
    clear h1 h2
    go_enter Try.func20, Try.ntmps20
    go_wp2_with (first | (go_at_call 26; refine args_guard1 (u := .slice a n c) (by with_reducible rfl) ?_; refine Calls.mono (HV.out _ (HU.out _ ?_)) ?_; (focus (repeat (first | with_reducible exact Bel.refl _ | with_reducible assumption | apply Bel.ext | apply Bel.alloc | apply Bel.drew | exact Bel.refl _))); rintro ee ww ⟨rfl, _, rfl⟩) | (go_at_call 26; refine Calls.mono (HV'.out _ (HU'.out _ ?_)) ?_; (focus (repeat (first | with_reducible exact Bel.refl _ | with_reducible assumption | apply Bel.ext | apply Bel.alloc | apply Bel.drew | exact Bel.refl _))); rintro ee ww ⟨rfl, _, rfl⟩))
    rw [← HR.out]
    exact RetRow.mk' rfl (by (repeat (first | with_reducible exact Bel.refl _ | with_reducible assumption | apply Bel.ext | apply Bel.alloc | apply Bel.drew | exact Bel.refl _ | refine Bel.set ?_ (by first | (simp; done) | (simp [go_sem]; done) | omega) _)) : Bel _ _) (World.ownsRow_nil _ _ _ _)
set_option maxHeartbeats 1000000 in
theorem sUnionWindows_c (u v : Value) (xs ys : List (Int × Int)) (w : World) (hu : Rd cel2 w u xs) (hv : Rd cel2 w v ys) :
    Calls Try.prog 16 #[u, v] w (RetRow 35 2 (fun v => .tuple #[v, .int .i64 (bothI 1 xs ys).2]) (bothI 1 xs ys).1.length (cel2.row (bothI 1 xs ys).1) w) := by
  generalize hR : RetRow _ _ _ _ _ w = R
  have HR := Lib.hid hR
  clear hR
  have HB := Lib.hid (fun W hb hb' => l15Both_c 1 (.inl rfl) u v xs ys W (hu.bel (x := W) hb) (hv.bel hb'))
  clear hu hv
  generalize (bothI 1 xs ys).2 = code at HR HB
  generalize (bothI 1 xs ys).1 = ls at HR HB
  go_enter Try.func16, Try.ntmps16
  go_wp2_with (go_at_call 20; refine Calls.mono (HB.out _ ?_ ?_) ?_; (focus (repeat (first | with_reducible exact Bel.refl _ | with_reducible assumption | apply Bel.ext | apply Bel.alloc | apply Bel.drew | exact Bel.refl _))); (focus (repeat (first | with_reducible exact Bel.refl _ | with_reducible assumption | apply Bel.ext | apply Bel.alloc | apply Bel.drew | exact Bel.refl _))); rintro ee ww ⟨vl, g3, rfl, rfl, hown⟩; have HO := Lib.hid hown; clear hown)
  rw [← HR.out]
  refine RetRow.mk' (v := vl) rfl (by (repeat (first | with_reducible exact Bel.refl _ | with_reducible assumption | apply Bel.ext | apply Bel.alloc | apply Bel.drew | exact Bel.refl _ | refine Bel.set ?_ (by first | (simp; done) | (simp [go_sem]; done) | omega) _)) : Bel _ _) (own_mono HO.out ?_)
  exact (by (repeat (first | with_reducible exact Bel.refl _ | with_reducible assumption | apply Bel.ext | apply Bel.alloc | apply Bel.drew | exact Bel.refl _ | refine Bel.set ?_ (by first | (simp; done) | (simp [go_sem]; done) | omega) _)) : Bel w _).size
set_option maxHeartbeats 1000000 in
theorem sMeetWindows_c (u v : Value) (xs ys : List (Int × Int)) (w : World) (hu : Rd cel2 w u xs) (hv : Rd cel2 w v ys) :
    Calls Try.prog 18 #[u, v] w (RetRow 35 2 (fun v => .tuple #[v, .int .i64 (bothI 2 xs ys).2]) (bothI 2 xs ys).1.length (cel2.row (bothI 2 xs ys).1) w) := by
  generalize hR : RetRow _ _ _ _ _ w = R
  have HR := Lib.hid hR
  clear hR
  have HB := Lib.hid (fun W hb hb' => l15Both_c 2 (.inr (.inl rfl)) u v xs ys W (hu.bel (x := W) hb) (hv.bel hb'))
  clear hu hv
  generalize (bothI 2 xs ys).2 = code at HR HB
  generalize (bothI 2 xs ys).1 = ls at HR HB
  go_enter Try.func18, Try.ntmps18
  go_wp2_with (go_at_call 20; refine Calls.mono (HB.out _ ?_ ?_) ?_; (focus (repeat (first | with_reducible exact Bel.refl _ | with_reducible assumption | apply Bel.ext | apply Bel.alloc | apply Bel.drew | exact Bel.refl _))); (focus (repeat (first | with_reducible exact Bel.refl _ | with_reducible assumption | apply Bel.ext | apply Bel.alloc | apply Bel.drew | exact Bel.refl _))); rintro ee ww ⟨vl, g3, rfl, rfl, hown⟩; have HO := Lib.hid hown; clear hown)
  rw [← HR.out]
  refine RetRow.mk' (v := vl) rfl (by (repeat (first | with_reducible exact Bel.refl _ | with_reducible assumption | apply Bel.ext | apply Bel.alloc | apply Bel.drew | exact Bel.refl _ | refine Bel.set ?_ (by first | (simp; done) | (simp [go_sem]; done) | omega) _)) : Bel _ _) (own_mono HO.out ?_)
  exact (by (repeat (first | with_reducible exact Bel.refl _ | with_reducible assumption | apply Bel.ext | apply Bel.alloc | apply Bel.drew | exact Bel.refl _ | refine Bel.set ?_ (by first | (simp; done) | (simp [go_sem]; done) | omega) _)) : Bel w _).size
set_option maxHeartbeats 1000000 in
theorem sLessWindows_c (u v : Value) (xs ys : List (Int × Int)) (w : World) (hu : Rd cel2 w u xs) (hv : Rd cel2 w v ys) :
    Calls Try.prog 8 #[u, v] w (RetRow 35 2 (fun v => .tuple #[v, .int .i64 (bothI 3 xs ys).2]) (bothI 3 xs ys).1.length (cel2.row (bothI 3 xs ys).1) w) := by
  generalize hR : RetRow _ _ _ _ _ w = R
  have HR := Lib.hid hR
  clear hR
  have HB := Lib.hid (fun W hb hb' => l15Both_c 3 (.inr (.inr rfl)) u v xs ys W (hu.bel (x := W) hb) (hv.bel hb'))
  clear hu hv
  generalize (bothI 3 xs ys).2 = code at HR HB
  generalize (bothI 3 xs ys).1 = ls at HR HB
  go_enter Try.func8, Try.ntmps8
  go_wp2_with (go_at_call 20; refine Calls.mono (HB.out _ ?_ ?_) ?_; (focus (repeat (first | with_reducible exact Bel.refl _ | with_reducible assumption | apply Bel.ext | apply Bel.alloc | apply Bel.drew | exact Bel.refl _))); (focus (repeat (first | with_reducible exact Bel.refl _ | with_reducible assumption | apply Bel.ext | apply Bel.alloc | apply Bel.drew | exact Bel.refl _))); rintro ee ww ⟨vl, g3, rfl, rfl, hown⟩; have HO := Lib.hid hown; clear hown)
  rw [← HR.out]
  refine RetRow.mk' (v := vl) rfl (by (repeat (first | with_reducible exact Bel.refl _ | with_reducible assumption | apply Bel.ext | apply Bel.alloc | apply Bel.drew | exact Bel.refl _ | refine Bel.set ?_ (by first | (simp; done) | (simp [go_sem]; done) | omega) _)) : Bel _ _) (own_mono HO.out ?_)
  exact (by (repeat (first | with_reducible exact Bel.refl _ | with_reducible assumption | apply Bel.ext | apply Bel.alloc | apply Bel.drew | exact Bel.refl _ | refine Bel.set ?_ (by first | (simp; done) | (simp [go_sem]; done) | omega) _)) : Bel w _).size
set_option maxHeartbeats 8000000 in
theorem sDarkTimes_c (u v t : Value) (xs ys zs : List (Int × Int)) (w : World) (hu : Rd cel2 w u xs) (hv : Rd cel2 w v ys) (ht : Rd cel2 w t zs) :
    Calls Try.prog 14 #[u, v, t] w (RetRow 35 2 (fun v => .tuple #[v, .int .i64 (darkI xs ys zs).2]) (darkI xs ys zs).1.length (cel2.row (darkI xs ys zs).1) w) := by
  generalize hR : RetRow _ _ _ _ _ w = R
  have HR := Lib.hid hR
  clear hR
  obtain ⟨a, n, c, rfl, hs⟩ := hu.sl
  obtain ⟨a', n', c', rfl, hs'⟩ := hv.sl
  obtain ⟨a2, n2, c2, rfl, hs2⟩ := ht.sl
  have HV := Lib.hid (fun w hu => l15Ok_c (.slice a n c) xs w hu)
  have HV' := Lib.hid (fun w hu => l15Ok_c (.slice a' n' c') ys w hu)
  have HV2 := Lib.hid (fun w hu => l15Ok_c (.slice a2 n2 c2) zs w hu)
  have HU := Lib.hid (fun x (hx : Bel w x) => hu.bel hx)
  have HU' := Lib.hid (fun x (hx : Bel w x) => hv.bel hx)
  have HU2 := Lib.hid (fun x (hx : Bel w x) => ht.bel hx)
  have HS2 := Lib.hid (fun x (hx : Bel w x) => hs2.bel hx)
  have hxl := hs.len
  have HXL := Lib.hid hxl
  clear hs hs' hs2 hu hv ht hxl
  unfold darkI at HR
  rcases h1 : windowsB xs with _ | _ <;> rcases h2 : windowsB ys with _ | _ <;> rcases h3 : windowsB zs with _ | _ <;> simp only [h1, h2, h3, Bool.not_true, Bool.not_false, Bool.true_or, Bool.or_true, Bool.false_or, Bool.or_false, Bool.true_and, Bool.and_true, Bool.false_and, Bool.and_false, if_true, if_false, Bool.false_eq_true] at HR HV HV' HV2
  case true.true.true =>
    have v1 := vW_of h1
    have v2 := vW_of h2
    have v3 := vW_of h3
    have l1 := windowsB_len h1
    have l2 := windowsB_len h2
    have l3 := windowsB_len h3
    rw [← HXL.out] at HR
    have hv3 := vW_made 3 v1 v2
    have hl3 := madeL_len 3 xs ys
    have hl4 := madeL_len 3 (madeL 3 xs ys) zs
    have HM := Lib.hid (fun W hb hb' => l15Made_c 3 (.inr (.inr rfl)) (.slice a n c) (.slice a' n' c') xs ys (by omega) (by omega) (vW_bd v1) (vW_bd v2) W (HU.out W hb) (HU'.out W hb'))
    have HL := Lib.hid (fun W o hrow hb => l15Made_c 3 (.inr (.inr rfl)) o (.slice a2 n2 c2) (madeL 3 xs ys) zs (by omega) (by omega) (vW_bd hv3) (vW_bd v3) W hrow (HU2.out W hb))
    have hlen : (madeL 3 (madeL 3 xs ys) zs).length ≤ 1000 := by omega
    have hn : n ≤ 30 := by rw [HXL.out]; exact l1
    clear v1 v2 v3 h1 h2 h3 hv3 hl3 hl4
    generalize madeL 3 (madeL 3 xs ys) zs = ls at HR HL hlen
    generalize madeL 3 xs ys = ms at HM HL
    unfold few at HR
    rcases Nat.lt_or_ge 30 ls.length with h30 | h30
    · have hz0 : ¬ ((ls.length : Int) = 0) := by omega
      have hz1 : ((ls.length : Int) == 0) = false := by rw [beq_eq_false_iff_ne]; exact hz0
      go_enter Try.func14, Try.ntmps14
      go_wp2_with (first | (go_at_call 26; refine args_guard1 (u := .slice a n c) (by with_reducible rfl) ?_; refine Calls.mono (HV.out _ (HU.out _ ?_)) ?_; (focus (repeat (first | with_reducible exact Bel.refl _ | with_reducible assumption | apply Bel.ext | apply Bel.alloc | apply Bel.drew | exact Bel.refl _))); rintro ee ww ⟨rfl, _, rfl⟩) | (go_at_call 26; refine args_guard1 (u := .slice a' n' c') (by with_reducible rfl) ?_; refine Calls.mono (HV'.out _ (HU'.out _ ?_)) ?_; (focus (repeat (first | with_reducible exact Bel.refl _ | with_reducible assumption | apply Bel.ext | apply Bel.alloc | apply Bel.drew | exact Bel.refl _))); rintro ee ww ⟨rfl, _, rfl⟩) | (go_at_call 26; refine args_guard1 (u := .slice a2 n2 c2) (by with_reducible rfl) ?_; refine Calls.mono (HV2.out _ (HU2.out _ ?_)) ?_; (focus (repeat (first | with_reducible exact Bel.refl _ | with_reducible assumption | apply Bel.ext | apply Bel.alloc | apply Bel.drew | exact Bel.refl _))); rintro ee ww ⟨rfl, _, rfl⟩) | (go_at_call 27; refine args_three (.slice a n c) (by with_reducible rfl) ?_; refine Calls.mono (HM.out _ ?_ ?_) ?_; (focus (repeat (first | with_reducible exact Bel.refl _ | with_reducible assumption | apply Bel.ext | apply Bel.alloc | apply Bel.drew | exact Bel.refl _))); (focus (repeat (first | with_reducible exact Bel.refl _ | with_reducible assumption | apply Bel.ext | apply Bel.alloc | apply Bel.drew | exact Bel.refl _))); rintro ee ww ⟨vm, g1, rfl, rfl, hm1⟩; have HM1 := Lib.hid hm1; clear hm1) | (go_at_call 27; refine Calls.mono (HL.out _ _ (Rd.bel (rd_of_row (C := cel2) HM1.out) ?_) ?_) ?_; (focus (repeat (first | with_reducible exact Bel.refl _ | with_reducible assumption | apply Bel.ext | apply Bel.alloc | apply Bel.drew | exact Bel.refl _))); (focus (repeat (first | with_reducible exact Bel.refl _ | with_reducible assumption | apply Bel.ext | apply Bel.alloc | apply Bel.drew | exact Bel.refl _))); rintro ee ww ⟨vl, g3, rfl, rfl, hown⟩; obtain ⟨al, cl, rfl, -, -⟩ := own_len hown; have HO := Lib.hid hown; clear hown))
      have hh := HR.out
      have hng : ¬ (ls.length = 0 ∧ 0 < n) := by omega
      simp only [if_neg hng, if_pos h30] at hh
      rw [← hh]
      exact RetRow.mk' rfl (by (repeat (first | with_reducible exact Bel.refl _ | with_reducible assumption | apply Bel.ext | apply Bel.alloc | apply Bel.drew | exact Bel.refl _ | refine Bel.set ?_ (by first | (simp; done) | (simp [go_sem]; done) | omega) _)) : Bel _ _) (World.ownsRow_nil _ _ _ _)
    · have hng3 : ¬ 30 < ls.length := by omega
      rcases Nat.eq_zero_or_pos ls.length with h0 | h0
      · have hz1 : ((ls.length : Int) == 0) = true := by rw [h0]; rfl
        by_cases hn0 : 0 < n
        · have hn0z : (0 : Int) < (n : Int) := by omega
          have HH0 := Lib.hid h0
          clear h0
          go_enter Try.func14, Try.ntmps14
          go_wp2_with (first | (go_at_call 26; refine args_guard1 (u := .slice a n c) (by with_reducible rfl) ?_; refine Calls.mono (HV.out _ (HU.out _ ?_)) ?_; (focus (repeat (first | with_reducible exact Bel.refl _ | with_reducible assumption | apply Bel.ext | apply Bel.alloc | apply Bel.drew | exact Bel.refl _))); rintro ee ww ⟨rfl, _, rfl⟩) | (go_at_call 26; refine args_guard1 (u := .slice a' n' c') (by with_reducible rfl) ?_; refine Calls.mono (HV'.out _ (HU'.out _ ?_)) ?_; (focus (repeat (first | with_reducible exact Bel.refl _ | with_reducible assumption | apply Bel.ext | apply Bel.alloc | apply Bel.drew | exact Bel.refl _))); rintro ee ww ⟨rfl, _, rfl⟩) | (go_at_call 26; refine args_guard1 (u := .slice a2 n2 c2) (by with_reducible rfl) ?_; refine Calls.mono (HV2.out _ (HU2.out _ ?_)) ?_; (focus (repeat (first | with_reducible exact Bel.refl _ | with_reducible assumption | apply Bel.ext | apply Bel.alloc | apply Bel.drew | exact Bel.refl _))); rintro ee ww ⟨rfl, _, rfl⟩) | (go_at_call 27; refine args_three (.slice a n c) (by with_reducible rfl) ?_; refine Calls.mono (HM.out _ ?_ ?_) ?_; (focus (repeat (first | with_reducible exact Bel.refl _ | with_reducible assumption | apply Bel.ext | apply Bel.alloc | apply Bel.drew | exact Bel.refl _))); (focus (repeat (first | with_reducible exact Bel.refl _ | with_reducible assumption | apply Bel.ext | apply Bel.alloc | apply Bel.drew | exact Bel.refl _))); rintro ee ww ⟨vm, g1, rfl, rfl, hm1⟩; have HM1 := Lib.hid hm1; clear hm1) | (go_at_call 27; refine Calls.mono (HL.out _ _ (Rd.bel (rd_of_row (C := cel2) HM1.out) ?_) ?_) ?_; (focus (repeat (first | with_reducible exact Bel.refl _ | with_reducible assumption | apply Bel.ext | apply Bel.alloc | apply Bel.drew | exact Bel.refl _))); (focus (repeat (first | with_reducible exact Bel.refl _ | with_reducible assumption | apply Bel.ext | apply Bel.alloc | apply Bel.drew | exact Bel.refl _))); rintro ee ww ⟨vl, g3, rfl, rfl, hown⟩; obtain ⟨al, cl, rfl, -, -⟩ := own_len hown; have HO := Lib.hid hown; clear hown))
          have hh := HR.out
          simp only [if_pos (And.intro HH0.out hn0)] at hh
          rw [← hh]
          exact RetRow.mk' rfl (by (repeat (first | with_reducible exact Bel.refl _ | with_reducible assumption | apply Bel.ext | apply Bel.alloc | apply Bel.drew | exact Bel.refl _ | refine Bel.set ?_ (by first | (simp; done) | (simp [go_sem]; done) | omega) _)) : Bel _ _) (World.ownsRow_nil _ _ _ _)
        · have hn0z : ¬ (0 : Int) < (n : Int) := by omega
          have HH0 := Lib.hid h0
          clear h0
          go_enter Try.func14, Try.ntmps14
          go_wp2_with (first | (go_at_call 26; refine args_guard1 (u := .slice a n c) (by with_reducible rfl) ?_; refine Calls.mono (HV.out _ (HU.out _ ?_)) ?_; (focus (repeat (first | with_reducible exact Bel.refl _ | with_reducible assumption | apply Bel.ext | apply Bel.alloc | apply Bel.drew | exact Bel.refl _))); rintro ee ww ⟨rfl, _, rfl⟩) | (go_at_call 26; refine args_guard1 (u := .slice a' n' c') (by with_reducible rfl) ?_; refine Calls.mono (HV'.out _ (HU'.out _ ?_)) ?_; (focus (repeat (first | with_reducible exact Bel.refl _ | with_reducible assumption | apply Bel.ext | apply Bel.alloc | apply Bel.drew | exact Bel.refl _))); rintro ee ww ⟨rfl, _, rfl⟩) | (go_at_call 26; refine args_guard1 (u := .slice a2 n2 c2) (by with_reducible rfl) ?_; refine Calls.mono (HV2.out _ (HU2.out _ ?_)) ?_; (focus (repeat (first | with_reducible exact Bel.refl _ | with_reducible assumption | apply Bel.ext | apply Bel.alloc | apply Bel.drew | exact Bel.refl _))); rintro ee ww ⟨rfl, _, rfl⟩) | (go_at_call 27; refine args_three (.slice a n c) (by with_reducible rfl) ?_; refine Calls.mono (HM.out _ ?_ ?_) ?_; (focus (repeat (first | with_reducible exact Bel.refl _ | with_reducible assumption | apply Bel.ext | apply Bel.alloc | apply Bel.drew | exact Bel.refl _))); (focus (repeat (first | with_reducible exact Bel.refl _ | with_reducible assumption | apply Bel.ext | apply Bel.alloc | apply Bel.drew | exact Bel.refl _))); rintro ee ww ⟨vm, g1, rfl, rfl, hm1⟩; have HM1 := Lib.hid hm1; clear hm1) | (go_at_call 27; refine Calls.mono (HL.out _ _ (Rd.bel (rd_of_row (C := cel2) HM1.out) ?_) ?_) ?_; (focus (repeat (first | with_reducible exact Bel.refl _ | with_reducible assumption | apply Bel.ext | apply Bel.alloc | apply Bel.drew | exact Bel.refl _))); (focus (repeat (first | with_reducible exact Bel.refl _ | with_reducible assumption | apply Bel.ext | apply Bel.alloc | apply Bel.drew | exact Bel.refl _))); rintro ee ww ⟨vl, g3, rfl, rfl, hown⟩; obtain ⟨al, cl, rfl, -, -⟩ := own_len hown; have HO := Lib.hid hown; clear hown))
          have hh := HR.out
          have hng : ¬ (ls.length = 0 ∧ 0 < n) := by omega
          simp only [if_neg hng, if_neg hng3] at hh
          rw [← hh]
          refine RetRow.mk' (v := .slice al ls.length cl) rfl (by (repeat (first | with_reducible exact Bel.refl _ | with_reducible assumption | apply Bel.ext | apply Bel.alloc | apply Bel.drew | exact Bel.refl _ | refine Bel.set ?_ (by first | (simp; done) | (simp [go_sem]; done) | omega) _)) : Bel _ _) (own_mono HO.out ?_)
          exact (by (repeat (first | with_reducible exact Bel.refl _ | with_reducible assumption | apply Bel.ext | apply Bel.alloc | apply Bel.drew | exact Bel.refl _ | refine Bel.set ?_ (by first | (simp; done) | (simp [go_sem]; done) | omega) _)) : Bel w _).size
      · have hz0 : ¬ ((ls.length : Int) = 0) := by omega
        have hz1 : ((ls.length : Int) == 0) = false := by rw [beq_eq_false_iff_ne]; exact hz0
        go_enter Try.func14, Try.ntmps14
        go_wp2_with (first | (go_at_call 26; refine args_guard1 (u := .slice a n c) (by with_reducible rfl) ?_; refine Calls.mono (HV.out _ (HU.out _ ?_)) ?_; (focus (repeat (first | with_reducible exact Bel.refl _ | with_reducible assumption | apply Bel.ext | apply Bel.alloc | apply Bel.drew | exact Bel.refl _))); rintro ee ww ⟨rfl, _, rfl⟩) | (go_at_call 26; refine args_guard1 (u := .slice a' n' c') (by with_reducible rfl) ?_; refine Calls.mono (HV'.out _ (HU'.out _ ?_)) ?_; (focus (repeat (first | with_reducible exact Bel.refl _ | with_reducible assumption | apply Bel.ext | apply Bel.alloc | apply Bel.drew | exact Bel.refl _))); rintro ee ww ⟨rfl, _, rfl⟩) | (go_at_call 26; refine args_guard1 (u := .slice a2 n2 c2) (by with_reducible rfl) ?_; refine Calls.mono (HV2.out _ (HU2.out _ ?_)) ?_; (focus (repeat (first | with_reducible exact Bel.refl _ | with_reducible assumption | apply Bel.ext | apply Bel.alloc | apply Bel.drew | exact Bel.refl _))); rintro ee ww ⟨rfl, _, rfl⟩) | (go_at_call 27; refine args_three (.slice a n c) (by with_reducible rfl) ?_; refine Calls.mono (HM.out _ ?_ ?_) ?_; (focus (repeat (first | with_reducible exact Bel.refl _ | with_reducible assumption | apply Bel.ext | apply Bel.alloc | apply Bel.drew | exact Bel.refl _))); (focus (repeat (first | with_reducible exact Bel.refl _ | with_reducible assumption | apply Bel.ext | apply Bel.alloc | apply Bel.drew | exact Bel.refl _))); rintro ee ww ⟨vm, g1, rfl, rfl, hm1⟩; have HM1 := Lib.hid hm1; clear hm1) | (go_at_call 27; refine Calls.mono (HL.out _ _ (Rd.bel (rd_of_row (C := cel2) HM1.out) ?_) ?_) ?_; (focus (repeat (first | with_reducible exact Bel.refl _ | with_reducible assumption | apply Bel.ext | apply Bel.alloc | apply Bel.drew | exact Bel.refl _))); (focus (repeat (first | with_reducible exact Bel.refl _ | with_reducible assumption | apply Bel.ext | apply Bel.alloc | apply Bel.drew | exact Bel.refl _))); rintro ee ww ⟨vl, g3, rfl, rfl, hown⟩; obtain ⟨al, cl, rfl, -, -⟩ := own_len hown; have HO := Lib.hid hown; clear hown))
        have hh := HR.out
        have hng : ¬ (ls.length = 0 ∧ 0 < n) := by omega
        simp only [if_neg hng, if_neg hng3] at hh
        rw [← hh]
        refine RetRow.mk' (v := .slice al ls.length cl) rfl (by (repeat (first | with_reducible exact Bel.refl _ | with_reducible assumption | apply Bel.ext | apply Bel.alloc | apply Bel.drew | exact Bel.refl _ | refine Bel.set ?_ (by first | (simp; done) | (simp [go_sem]; done) | omega) _)) : Bel _ _) (own_mono HO.out ?_)
        exact (by (repeat (first | with_reducible exact Bel.refl _ | with_reducible assumption | apply Bel.ext | apply Bel.alloc | apply Bel.drew | exact Bel.refl _ | refine Bel.set ?_ (by first | (simp; done) | (simp [go_sem]; done) | omega) _)) : Bel w _).size
  all_goals
    clear h1 h2 h3
    go_enter Try.func14, Try.ntmps14
    go_wp2_with (first | (go_at_call 26; refine args_guard1 (u := .slice a n c) (by with_reducible rfl) ?_; refine Calls.mono (HV.out _ (HU.out _ ?_)) ?_; (focus (repeat (first | with_reducible exact Bel.refl _ | with_reducible assumption | apply Bel.ext | apply Bel.alloc | apply Bel.drew | exact Bel.refl _))); rintro ee ww ⟨rfl, _, rfl⟩) | (go_at_call 26; refine args_guard1 (u := .slice a' n' c') (by with_reducible rfl) ?_; refine Calls.mono (HV'.out _ (HU'.out _ ?_)) ?_; (focus (repeat (first | with_reducible exact Bel.refl _ | with_reducible assumption | apply Bel.ext | apply Bel.alloc | apply Bel.drew | exact Bel.refl _))); rintro ee ww ⟨rfl, _, rfl⟩) | (go_at_call 26; refine args_guard1 (u := .slice a2 n2 c2) (by with_reducible rfl) ?_; refine Calls.mono (HV2.out _ (HU2.out _ ?_)) ?_; (focus (repeat (first | with_reducible exact Bel.refl _ | with_reducible assumption | apply Bel.ext | apply Bel.alloc | apply Bel.drew | exact Bel.refl _))); rintro ee ww ⟨rfl, _, rfl⟩))
    rw [← HR.out]
    exact RetRow.mk' rfl (by (repeat (first | with_reducible exact Bel.refl _ | with_reducible assumption | apply Bel.ext | apply Bel.alloc | apply Bel.drew | exact Bel.refl _ | refine Bel.set ?_ (by first | (simp; done) | (simp [go_sem]; done) | omega) _)) : Bel _ _) (World.ownsRow_nil _ _ _ _)
end Go.Proofs.Ytdneffnnpjgnbab
