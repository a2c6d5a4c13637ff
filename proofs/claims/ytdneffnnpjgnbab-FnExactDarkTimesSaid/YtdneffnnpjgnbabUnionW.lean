/- What UnionWindows, MeetWindows, LessWindows and DarkTimes of the program return. -/
import Derived.Test.YtdneffnnpjgnbabFewW
import Derived.Test.YtdneffnnpjgnbabSetW
namespace Go.Proofs.Ytdneffnnpjgnbab
open Go.RowKit

set_option maxHeartbeats 4000000 in
theorem UnionWindows_c (u v : Value) (xs ys : List (Int × Int)) (w : World) (hu : Rd cel2 w u xs) (hv : Rd cel2 w v ys) :
    Calls Try.prog 17 #[u, v] w (RetRow 35 2 (fun v => .tuple #[v, .int .i64 (bothI 1 xs ys).2]) (bothI 1 xs ys).1.length (cel2.row (bothI 1 xs ys).1) w) := by
  generalize hR : RetRow _ _ _ _ _ w = R
  have HR := Lib.hid hR
  clear hR
  obtain ⟨a, n, c, rfl, hs⟩ := hu.sl
  obtain ⟨a', n', c', rfl, hs'⟩ := hv.sl
  have HV := Lib.hid (fun w hu => ValidWindows_c (.slice a n c) xs w hu)
  have HV' := Lib.hid (fun w hu => ValidWindows_c (.slice a' n' c') ys w hu)
  have HU := Lib.hid (fun x (hx : Bel w x) => hu.bel hx)
  have HU' := Lib.hid (fun x (hx : Bel w x) => hv.bel hx)
  have HS' := Lib.hid (fun x (hx : Bel w x) => hs'.bel hx)
  clear hs hs' hu hv
  unfold bothI at HR
  rcases h1 : windowsB xs with _ | _ <;> rcases h2 : windowsB ys with _ | _ <;> simp only [h1, h2, Bool.not_true, Bool.not_false, Bool.true_or, Bool.or_true, Bool.false_or, Bool.or_false, Bool.true_and, Bool.and_true, Bool.false_and, Bool.and_false, if_true, if_false, Bool.false_eq_true] at HR HV HV'
  case true.true =>
    have v1 := vW_of h1
    have v2 := vW_of h2
    have l1 := windowsB_len h1
    have l2 := windowsB_len h2
    rw [← union_eq v1 v2] at HR
    have HC := Lib.hid (fun W hb => copyOfW_c (.slice a n c) xs (by omega) W (HU.out W hb))
    have HL := Lib.hid (fun W o hrow => longest_c o (xs ++ ys) (by simp; omega) (vW_ok (vW_append v1 v2)) (vW_bd (vW_append v1 v2)) W (rd_of_row (C := cel2) (B := w.heap.size) (e := 35) hrow))
    have hlen : (longL' (xs ++ ys)).length ≤ 60 := by have := longL_len' (xs ++ ys); simp at this; omega
    have hys : n' = ys.length := (HS'.out w (Bel.refl w)).len
    have HYS := Lib.hid hys
    have hn' : n' ≤ 30 := by omega
    clear v1 v2 h1 h2 hys
    generalize longL' (xs ++ ys) = ls at HR HL hlen
    unfold few at HR
    have walkL : ∃ x : Nat, x = 0 := ⟨0, rfl⟩
    rcases Nat.lt_or_ge 30 ls.length with h30 | h30
    all_goals
      go_enter Try.func17, Try.ntmps17
      go_wp2_with (first | (go_at_call 22; refine args_guard1 (u := .slice a n c) (by with_reducible rfl) ?_; refine Calls.mono (HV.out _ (HU.out _ ?_)) ?_; (focus (repeat (first | with_reducible exact Bel.refl _ | with_reducible assumption | apply Bel.ext | apply Bel.alloc | apply Bel.drew | exact Bel.refl _))); rintro ee ww ⟨rfl, _, rfl⟩) | (go_at_call 22; refine Calls.mono (HV'.out _ (HU'.out _ ?_)) ?_; (focus (repeat (first | with_reducible exact Bel.refl _ | with_reducible assumption | apply Bel.ext | apply Bel.alloc | apply Bel.drew | exact Bel.refl _))); rintro ee ww ⟨rfl, _, rfl⟩) | (go_at_call 28; refine Calls.mono (mem_row (mem_nil w) ?_ (HC.out _ ?_)) ?_; (focus (repeat (first | with_reducible exact Bel.refl _ | with_reducible assumption | apply Bel.ext | apply Bel.alloc | apply Bel.drew | exact Bel.refl _))); (focus (repeat (first | with_reducible exact Bel.refl _ | with_reducible assumption | apply Bel.ext | apply Bel.alloc | apply Bel.drew | exact Bel.refl _))); rintro ee ww ⟨vc, g1, rfl, rfl, hM⟩; (simp only [List.nil_append] at hM); have HM1 := Lib.hid hM; clear hM) | (at_builtin; refine wpList_append_rd rfl (.tmp 15) (.tmp 16) 24 35 16 rfl appWindow w _ 0 _ _ _ rfl a' n' c' ys rfl rfl (HS'.out _ ?_) HM1.out (by omega) (by omega) ?_; (focus (repeat (first | with_reducible exact Bel.refl _ | with_reducible assumption | apply Bel.ext | apply Bel.alloc | apply Bel.drew | exact Bel.refl _))); intro v2 g2 hM; (simp only [List.set_cons_zero] at hM); have HM2 := Lib.hid hM; clear hM) | (go_at_call 29; refine Calls.mono (HL.out _ _ ?_) ?_; (have h0 := HM2.out.own 0 _ rfl; dsimp only at h0; rw [Cel.row_append, List.length_append, ← HYS.out]; exact h0); rintro ee ww ⟨vl, g3, rfl, rfl, hown⟩; obtain ⟨al, cl, rfl, -, -⟩ := own_len hown; have HO := Lib.hid hown; clear hown) | (go_at_call 23; refine Calls.mono (fewWindows_c _ _ _ (by omega) _) ?_; rintro ee ww ⟨rfl, rfl⟩))
    · have hh := HR.out
      simp only [if_pos h30] at hh
      rw [← hh]
      exact RetRow.mk' (by simp [h30]) (by (repeat (first | with_reducible exact Bel.refl _ | with_reducible assumption | apply Bel.ext | apply Bel.alloc | apply Bel.drew | exact Bel.refl _ | refine Bel.set ?_ (by first | (simp; done) | (simp [go_sem]; done) | omega) _)) : Bel _ _) (World.ownsRow_nil _ _ _ _)
    · have hh := HR.out
      have hng : ¬ 30 < ls.length := by omega
      simp only [if_neg hng] at hh
      rw [← hh]
      refine RetRow.mk' (v := .slice al ls.length cl) (by simp [hng]) (by (repeat (first | with_reducible exact Bel.refl _ | with_reducible assumption | apply Bel.ext | apply Bel.alloc | apply Bel.drew | exact Bel.refl _ | refine Bel.set ?_ (by first | (simp; done) | (simp [go_sem]; done) | omega) _)) : Bel _ _) (own_mono HO.out ?_)
      exact (by (repeat (first | with_reducible exact Bel.refl _ | with_reducible assumption | apply Bel.ext | apply Bel.alloc | apply Bel.drew | exact Bel.refl _ | refine Bel.set ?_ (by first | (simp; done) | (simp [go_sem]; done) | omega) _)) : Bel w _).size
  all_goals
    clear h1 h2
    go_enter Try.func17, Try.ntmps17
    go_wp2_with (first | (go_at_call 22; refine args_guard1 (u := .slice a n c) (by with_reducible rfl) ?_; refine Calls.mono (HV.out _ (HU.out _ ?_)) ?_; (focus (repeat (first | with_reducible exact Bel.refl _ | with_reducible assumption | apply Bel.ext | apply Bel.alloc | apply Bel.drew | exact Bel.refl _))); rintro ee ww ⟨rfl, _, rfl⟩) | (go_at_call 22; refine Calls.mono (HV'.out _ (HU'.out _ ?_)) ?_; (focus (repeat (first | with_reducible exact Bel.refl _ | with_reducible assumption | apply Bel.ext | apply Bel.alloc | apply Bel.drew | exact Bel.refl _))); rintro ee ww ⟨rfl, _, rfl⟩))
    rw [← HR.out]
    exact RetRow.mk' rfl (by (repeat (first | with_reducible exact Bel.refl _ | with_reducible assumption | apply Bel.ext | apply Bel.alloc | apply Bel.drew | exact Bel.refl _ | refine Bel.set ?_ (by first | (simp; done) | (simp [go_sem]; done) | omega) _)) : Bel _ _) (World.ownsRow_nil _ _ _ _)
set_option maxHeartbeats 4000000 in
theorem MeetWindows_c (u v : Value) (xs ys : List (Int × Int)) (w : World) (hu : Rd cel2 w u xs) (hv : Rd cel2 w v ys) :
    Calls Try.prog 19 #[u, v] w (RetRow 35 2 (fun v => .tuple #[v, .int .i64 (bothI 2 xs ys).2]) (bothI 2 xs ys).1.length (cel2.row (bothI 2 xs ys).1) w) := by
  generalize hR : RetRow _ _ _ _ _ w = R
  have HR := Lib.hid hR
  clear hR
  obtain ⟨a, n, c, rfl, hs⟩ := hu.sl
  obtain ⟨a', n', c', rfl, hs'⟩ := hv.sl
  have HV := Lib.hid (fun w hu => ValidWindows_c (.slice a n c) xs w hu)
  have HV' := Lib.hid (fun w hu => ValidWindows_c (.slice a' n' c') ys w hu)
  have HU := Lib.hid (fun x (hx : Bel w x) => hu.bel hx)
  have HU' := Lib.hid (fun x (hx : Bel w x) => hv.bel hx)
  clear hs hs' hu hv
  unfold bothI at HR
  rcases h1 : windowsB xs with _ | _ <;> rcases h2 : windowsB ys with _ | _ <;> simp only [h1, h2, Bool.not_true, Bool.not_false, Bool.true_or, Bool.or_true, Bool.false_or, Bool.or_false, Bool.true_and, Bool.and_true, Bool.false_and, Bool.and_false, if_true, if_false, Bool.false_eq_true] at HR HV HV'
  case true.true =>
    have v1 := vW_of h1
    have v2 := vW_of h2
    have l1 := windowsB_len h1
    have l2 := windowsB_len h2
    have HL := Lib.hid (fun W hb hb' => meet_c (.slice a n c) (.slice a' n' c') xs ys (by omega) (by omega) (vW_bd v1) (vW_bd v2) W (HU.out W hb) (HU'.out W hb'))
    rw [meet_eq] at HL
    have hlen : (madeL 2 xs ys).length ≤ 120 := by have := madeL_len 2 xs ys; omega
    clear v1 v2 h1 h2
    generalize madeL 2 xs ys = ls at HR HL hlen
    unfold few at HR
    rcases Nat.lt_or_ge 30 ls.length with h30 | h30
    all_goals
      go_enter Try.func19, Try.ntmps19
      go_wp2_with (first | (go_at_call 22; refine args_guard1 (u := .slice a n c) (by with_reducible rfl) ?_; refine Calls.mono (HV.out _ (HU.out _ ?_)) ?_; (focus (repeat (first | with_reducible exact Bel.refl _ | with_reducible assumption | apply Bel.ext | apply Bel.alloc | apply Bel.drew | exact Bel.refl _))); rintro ee ww ⟨rfl, _, rfl⟩) | (go_at_call 22; refine Calls.mono (HV'.out _ (HU'.out _ ?_)) ?_; (focus (repeat (first | with_reducible exact Bel.refl _ | with_reducible assumption | apply Bel.ext | apply Bel.alloc | apply Bel.drew | exact Bel.refl _))); rintro ee ww ⟨rfl, _, rfl⟩) | (go_at_call 30; refine Calls.mono (HL.out _ ?_ ?_) ?_; (focus (repeat (first | with_reducible exact Bel.refl _ | with_reducible assumption | apply Bel.ext | apply Bel.alloc | apply Bel.drew | exact Bel.refl _))); (focus (repeat (first | with_reducible exact Bel.refl _ | with_reducible assumption | apply Bel.ext | apply Bel.alloc | apply Bel.drew | exact Bel.refl _))); rintro ee ww ⟨vl, g3, rfl, rfl, hown⟩; obtain ⟨al, cl, rfl, -, -⟩ := own_len hown; have HO := Lib.hid hown; clear hown) | (go_at_call 23; refine Calls.mono (fewWindows_c _ _ _ (by omega) _) ?_; rintro ee ww ⟨rfl, rfl⟩))
    · have hh := HR.out
      simp only [if_pos h30] at hh
      rw [← hh]
      exact RetRow.mk' (by simp [h30]) (by (repeat (first | with_reducible exact Bel.refl _ | with_reducible assumption | apply Bel.ext | apply Bel.alloc | apply Bel.drew | exact Bel.refl _ | refine Bel.set ?_ (by first | (simp; done) | (simp [go_sem]; done) | omega) _)) : Bel _ _) (World.ownsRow_nil _ _ _ _)
    · have hh := HR.out
      have hng : ¬ 30 < ls.length := by omega
      simp only [if_neg hng] at hh
      rw [← hh]
      refine RetRow.mk' (v := .slice al ls.length cl) (by simp [hng]) (by (repeat (first | with_reducible exact Bel.refl _ | with_reducible assumption | apply Bel.ext | apply Bel.alloc | apply Bel.drew | exact Bel.refl _ | refine Bel.set ?_ (by first | (simp; done) | (simp [go_sem]; done) | omega) _)) : Bel _ _) (own_mono HO.out ?_)
      exact (by (repeat (first | with_reducible exact Bel.refl _ | with_reducible assumption | apply Bel.ext | apply Bel.alloc | apply Bel.drew | exact Bel.refl _ | refine Bel.set ?_ (by first | (simp; done) | (simp [go_sem]; done) | omega) _)) : Bel w _).size
  all_goals
    clear h1 h2
    go_enter Try.func19, Try.ntmps19
    go_wp2_with (first | (go_at_call 22; refine args_guard1 (u := .slice a n c) (by with_reducible rfl) ?_; refine Calls.mono (HV.out _ (HU.out _ ?_)) ?_; (focus (repeat (first | with_reducible exact Bel.refl _ | with_reducible assumption | apply Bel.ext | apply Bel.alloc | apply Bel.drew | exact Bel.refl _))); rintro ee ww ⟨rfl, _, rfl⟩) | (go_at_call 22; refine Calls.mono (HV'.out _ (HU'.out _ ?_)) ?_; (focus (repeat (first | with_reducible exact Bel.refl _ | with_reducible assumption | apply Bel.ext | apply Bel.alloc | apply Bel.drew | exact Bel.refl _))); rintro ee ww ⟨rfl, _, rfl⟩))
    rw [← HR.out]
    exact RetRow.mk' rfl (by (repeat (first | with_reducible exact Bel.refl _ | with_reducible assumption | apply Bel.ext | apply Bel.alloc | apply Bel.drew | exact Bel.refl _ | refine Bel.set ?_ (by first | (simp; done) | (simp [go_sem]; done) | omega) _)) : Bel _ _) (World.ownsRow_nil _ _ _ _)
set_option maxHeartbeats 4000000 in
theorem LessWindows_c (u v : Value) (xs ys : List (Int × Int)) (w : World) (hu : Rd cel2 w u xs) (hv : Rd cel2 w v ys) :
    Calls Try.prog 10 #[u, v] w (RetRow 35 2 (fun v => .tuple #[v, .int .i64 (bothI 3 xs ys).2]) (bothI 3 xs ys).1.length (cel2.row (bothI 3 xs ys).1) w) := by
  generalize hR : RetRow _ _ _ _ _ w = R
  have HR := Lib.hid hR
  clear hR
  obtain ⟨a, n, c, rfl, hs⟩ := hu.sl
  obtain ⟨a', n', c', rfl, hs'⟩ := hv.sl
  have HV := Lib.hid (fun w hu => ValidWindows_c (.slice a n c) xs w hu)
  have HV' := Lib.hid (fun w hu => ValidWindows_c (.slice a' n' c') ys w hu)
  have HU := Lib.hid (fun x (hx : Bel w x) => hu.bel hx)
  have HU' := Lib.hid (fun x (hx : Bel w x) => hv.bel hx)
  clear hs hs' hu hv
  unfold bothI at HR
  rcases h1 : windowsB xs with _ | _ <;> rcases h2 : windowsB ys with _ | _ <;> simp only [h1, h2, Bool.not_true, Bool.not_false, Bool.true_or, Bool.or_true, Bool.false_or, Bool.or_false, Bool.true_and, Bool.and_true, Bool.false_and, Bool.and_false, if_true, if_false, Bool.false_eq_true] at HR HV HV'
  case true.true =>
    have v1 := vW_of h1
    have v2 := vW_of h2
    have l1 := windowsB_len h1
    have l2 := windowsB_len h2
    have HL := Lib.hid (fun W hb hb' => without_c (.slice a n c) (.slice a' n' c') xs ys (by omega) (by omega) (vW_bd v1) v2 W (HU.out W hb) (HU'.out W hb'))
    rw [less_eq v1 v2] at HL
    have hlen : (madeL 3 xs ys).length ≤ 120 := by have := madeL_len 3 xs ys; omega
    clear v1 v2 h1 h2
    generalize madeL 3 xs ys = ls at HR HL hlen
    unfold few at HR
    rcases Nat.lt_or_ge 30 ls.length with h30 | h30
    all_goals
      go_enter Try.func10, Try.ntmps10
      go_wp2_with (first | (go_at_call 22; refine args_guard1 (u := .slice a n c) (by with_reducible rfl) ?_; refine Calls.mono (HV.out _ (HU.out _ ?_)) ?_; (focus (repeat (first | with_reducible exact Bel.refl _ | with_reducible assumption | apply Bel.ext | apply Bel.alloc | apply Bel.drew | exact Bel.refl _))); rintro ee ww ⟨rfl, _, rfl⟩) | (go_at_call 22; refine Calls.mono (HV'.out _ (HU'.out _ ?_)) ?_; (focus (repeat (first | with_reducible exact Bel.refl _ | with_reducible assumption | apply Bel.ext | apply Bel.alloc | apply Bel.drew | exact Bel.refl _))); rintro ee ww ⟨rfl, _, rfl⟩) | (go_at_call 24; refine Calls.mono (HL.out _ ?_ ?_) ?_; (focus (repeat (first | with_reducible exact Bel.refl _ | with_reducible assumption | apply Bel.ext | apply Bel.alloc | apply Bel.drew | exact Bel.refl _))); (focus (repeat (first | with_reducible exact Bel.refl _ | with_reducible assumption | apply Bel.ext | apply Bel.alloc | apply Bel.drew | exact Bel.refl _))); rintro ee ww ⟨vl, g3, rfl, rfl, hown⟩; obtain ⟨al, cl, rfl, -, -⟩ := own_len hown; have HO := Lib.hid hown; clear hown) | (go_at_call 23; refine Calls.mono (fewWindows_c _ _ _ (by omega) _) ?_; rintro ee ww ⟨rfl, rfl⟩))
    · have hh := HR.out
      simp only [if_pos h30] at hh
      rw [← hh]
      exact RetRow.mk' (by simp [h30]) (by (repeat (first | with_reducible exact Bel.refl _ | with_reducible assumption | apply Bel.ext | apply Bel.alloc | apply Bel.drew | exact Bel.refl _ | refine Bel.set ?_ (by first | (simp; done) | (simp [go_sem]; done) | omega) _)) : Bel _ _) (World.ownsRow_nil _ _ _ _)
    · have hh := HR.out
      have hng : ¬ 30 < ls.length := by omega
      simp only [if_neg hng] at hh
      rw [← hh]
      refine RetRow.mk' (v := .slice al ls.length cl) (by simp [hng]) (by (repeat (first | with_reducible exact Bel.refl _ | with_reducible assumption | apply Bel.ext | apply Bel.alloc | apply Bel.drew | exact Bel.refl _ | refine Bel.set ?_ (by first | (simp; done) | (simp [go_sem]; done) | omega) _)) : Bel _ _) (own_mono HO.out ?_)
      exact (by (repeat (first | with_reducible exact Bel.refl _ | with_reducible assumption | apply Bel.ext | apply Bel.alloc | apply Bel.drew | exact Bel.refl _ | refine Bel.set ?_ (by first | (simp; done) | (simp [go_sem]; done) | omega) _)) : Bel w _).size
  all_goals
    clear h1 h2
    go_enter Try.func10, Try.ntmps10
    go_wp2_with (first | (go_at_call 22; refine args_guard1 (u := .slice a n c) (by with_reducible rfl) ?_; refine Calls.mono (HV.out _ (HU.out _ ?_)) ?_; (focus (repeat (first | with_reducible exact Bel.refl _ | with_reducible assumption | apply Bel.ext | apply Bel.alloc | apply Bel.drew | exact Bel.refl _))); rintro ee ww ⟨rfl, _, rfl⟩) | (go_at_call 22; refine Calls.mono (HV'.out _ (HU'.out _ ?_)) ?_; (focus (repeat (first | with_reducible exact Bel.refl _ | with_reducible assumption | apply Bel.ext | apply Bel.alloc | apply Bel.drew | exact Bel.refl _))); rintro ee ww ⟨rfl, _, rfl⟩))
    rw [← HR.out]
    exact RetRow.mk' rfl (by (repeat (first | with_reducible exact Bel.refl _ | with_reducible assumption | apply Bel.ext | apply Bel.alloc | apply Bel.drew | exact Bel.refl _ | refine Bel.set ?_ (by first | (simp; done) | (simp [go_sem]; done) | omega) _)) : Bel _ _) (World.ownsRow_nil _ _ _ _)
set_option maxHeartbeats 8000000 in
theorem DarkTimes_c (u v t : Value) (xs ys zs : List (Int × Int)) (w : World) (hu : Rd cel2 w u xs) (hv : Rd cel2 w v ys) (ht : Rd cel2 w t zs) :
    Calls Try.prog 15 #[u, v, t] w (RetRow 35 2 (fun v => .tuple #[v, .int .i64 (darkI xs ys zs).2]) (darkI xs ys zs).1.length (cel2.row (darkI xs ys zs).1) w) := by
  generalize hR : RetRow _ _ _ _ _ w = R
  have HR := Lib.hid hR
  clear hR
  obtain ⟨a, n, c, rfl, hs⟩ := hu.sl
  obtain ⟨a', n', c', rfl, hs'⟩ := hv.sl
  obtain ⟨a2, n2, c2, rfl, hs2⟩ := ht.sl
  have HV := Lib.hid (fun w hu => ValidWindows_c (.slice a n c) xs w hu)
  have HV' := Lib.hid (fun w hu => ValidWindows_c (.slice a' n' c') ys w hu)
  have HV2 := Lib.hid (fun w hu => ValidWindows_c (.slice a2 n2 c2) zs w hu)
  have HU := Lib.hid (fun x (hx : Bel w x) => hu.bel hx)
  have HU' := Lib.hid (fun x (hx : Bel w x) => hv.bel hx)
  have HU2 := Lib.hid (fun x (hx : Bel w x) => ht.bel hx)
  have HS2 := Lib.hid (fun x (hx : Bel w x) => hs2.bel hx)
  have hxl := hs.len
  have HXL := Lib.hid hxl
  clear hs hs' hs2 hu hv ht hxl
  unfold darkI at HR
  rcases h1 : windowsB xs with _ | _ <;> rcases h2 : windowsB ys with _ | _ <;> rcases h3 : windowsB zs with _ | _ <;> simp only [h1, h2, h3, Bool.not_true, Bool.not_false, Bool.true_or, Bool.or_true, Bool.false_or, Bool.or_false, Bool.true_and, Bool.and_true, Bool.false_and, Bool.and_false, if_true, if_false, Bool.false_eq_true] at HR HV HV' HV2
  case true.true.true =>
    have v1 := vW_of h1
    have v2 := vW_of h2
    have v3 := vW_of h3
    have l1 := windowsB_len h1
    have l2 := windowsB_len h2
    have l3 := windowsB_len h3
    rw [← dark_eq v1 v2 v3, ← HXL.out] at HR
    have HC := Lib.hid (fun W hb => copyOfW_c (.slice a' n' c') ys (by omega) W (HU'.out W hb))
    have HL := Lib.hid (fun W o hb hrow => without_c (.slice a n c) o xs (ys ++ zs) (by omega) (by simp; omega) (vW_bd v1) (vW_append v2 v3) W (HU.out W hb) (rd_of_row (C := cel2) (B := w.heap.size) (e := 35) hrow))
    have hlen : (withoutL xs (ys ++ zs)).length ≤ 1000 := by
      rw [dark_eq v1 v2 v3]
      have := madeL_len 3 (madeL 3 xs ys) zs
      have := madeL_len 3 xs ys
      omega
    have hzs : n2 = zs.length := (HS2.out w (Bel.refl w)).len
    have HZS := Lib.hid hzs
    have hn2 : n2 ≤ 30 := by omega
    have hn : n ≤ 30 := by rw [HXL.out]; exact l1
    clear v1 v2 v3 h1 h2 h3 hzs
    generalize withoutL xs (ys ++ zs) = ls at HR HL hlen
    unfold few at HR
    rcases Nat.lt_or_ge 30 ls.length with h30 | h30
    · have hz0 : ¬ ((ls.length : Int) = 0) := by omega
      have hz1 : ((ls.length : Int) == 0) = false := by rw [beq_eq_false_iff_ne]; exact hz0
      go_enter Try.func15, Try.ntmps15
      go_wp2_with (first | (go_at_call 22; refine args_guard1 (u := .slice a n c) (by with_reducible rfl) ?_; refine Calls.mono (HV.out _ (HU.out _ ?_)) ?_; (focus (repeat (first | with_reducible exact Bel.refl _ | with_reducible assumption | apply Bel.ext | apply Bel.alloc | apply Bel.drew | exact Bel.refl _))); rintro ee ww ⟨rfl, _, rfl⟩) | (go_at_call 22; refine args_guard1 (u := .slice a' n' c') (by with_reducible rfl) ?_; refine Calls.mono (HV'.out _ (HU'.out _ ?_)) ?_; (focus (repeat (first | with_reducible exact Bel.refl _ | with_reducible assumption | apply Bel.ext | apply Bel.alloc | apply Bel.drew | exact Bel.refl _))); rintro ee ww ⟨rfl, _, rfl⟩) | (go_at_call 22; refine args_guard1 (u := .slice a2 n2 c2) (by with_reducible rfl) ?_; refine Calls.mono (HV2.out _ (HU2.out _ ?_)) ?_; (focus (repeat (first | with_reducible exact Bel.refl _ | with_reducible assumption | apply Bel.ext | apply Bel.alloc | apply Bel.drew | exact Bel.refl _))); rintro ee ww ⟨rfl, _, rfl⟩) | (go_at_call 28; refine Calls.mono (mem_row (mem_nil w) ?_ (HC.out _ ?_)) ?_; (focus (repeat (first | with_reducible exact Bel.refl _ | with_reducible assumption | apply Bel.ext | apply Bel.alloc | apply Bel.drew | exact Bel.refl _))); (focus (repeat (first | with_reducible exact Bel.refl _ | with_reducible assumption | apply Bel.ext | apply Bel.alloc | apply Bel.drew | exact Bel.refl _))); rintro ee ww ⟨vc, g1, rfl, rfl, hM⟩; (simp only [List.nil_append] at hM); have HM1 := Lib.hid hM; clear hM) | (at_builtin; refine wpList_append_rd rfl (.tmp 24) (.tmp 25) 24 35 16 rfl appWindow w _ 0 _ _ _ rfl a2 n2 c2 zs rfl rfl (HS2.out _ ?_) HM1.out (by omega) (by omega) ?_; (focus (repeat (first | with_reducible exact Bel.refl _ | with_reducible assumption | apply Bel.ext | apply Bel.alloc | apply Bel.drew | exact Bel.refl _))); intro v2 g2 hM; (simp only [List.set_cons_zero] at hM); have HM2 := Lib.hid hM; clear hM) | (go_at_call 24; refine Calls.mono (HL.out _ _ ?_ ?_) ?_; (focus (repeat (first | with_reducible exact Bel.refl _ | with_reducible assumption | apply Bel.ext | apply Bel.alloc | apply Bel.drew | exact Bel.refl _))); (have h0 := HM2.out.own 0 _ rfl; dsimp only at h0; rw [Cel.row_append, List.length_append, ← HZS.out]; exact h0); rintro ee ww ⟨vl, g3, rfl, rfl, hown⟩; obtain ⟨al, cl, rfl, -, -⟩ := own_len hown; have HO := Lib.hid hown; clear hown) | (go_at_call 23; refine Calls.mono (fewWindows_c _ _ _ (by omega) _) ?_; rintro ee ww ⟨rfl, rfl⟩))
      have hh := HR.out
      have hng : ¬ (ls.length = 0 ∧ 0 < n) := by omega
      simp only [if_neg hng, if_pos h30] at hh
      rw [← hh]
      exact RetRow.mk' (by simp [h30]) (by (repeat (first | with_reducible exact Bel.refl _ | with_reducible assumption | apply Bel.ext | apply Bel.alloc | apply Bel.drew | exact Bel.refl _ | refine Bel.set ?_ (by first | (simp; done) | (simp [go_sem]; done) | omega) _)) : Bel _ _) (World.ownsRow_nil _ _ _ _)
    · have hng3 : ¬ 30 < ls.length := by omega
      rcases Nat.eq_zero_or_pos ls.length with h0 | h0
      · have hz1 : ((ls.length : Int) == 0) = true := by rw [h0]; rfl
        by_cases hn0 : 0 < n
        · have hn0z : (0 : Int) < (n : Int) := by omega
          have HH0 := Lib.hid h0
          clear h0
          go_enter Try.func15, Try.ntmps15
          go_wp2_with (first | (go_at_call 22; refine args_guard1 (u := .slice a n c) (by with_reducible rfl) ?_; refine Calls.mono (HV.out _ (HU.out _ ?_)) ?_; (focus (repeat (first | with_reducible exact Bel.refl _ | with_reducible assumption | apply Bel.ext | apply Bel.alloc | apply Bel.drew | exact Bel.refl _))); rintro ee ww ⟨rfl, _, rfl⟩) | (go_at_call 22; refine args_guard1 (u := .slice a' n' c') (by with_reducible rfl) ?_; refine Calls.mono (HV'.out _ (HU'.out _ ?_)) ?_; (focus (repeat (first | with_reducible exact Bel.refl _ | with_reducible assumption | apply Bel.ext | apply Bel.alloc | apply Bel.drew | exact Bel.refl _))); rintro ee ww ⟨rfl, _, rfl⟩) | (go_at_call 22; refine args_guard1 (u := .slice a2 n2 c2) (by with_reducible rfl) ?_; refine Calls.mono (HV2.out _ (HU2.out _ ?_)) ?_; (focus (repeat (first | with_reducible exact Bel.refl _ | with_reducible assumption | apply Bel.ext | apply Bel.alloc | apply Bel.drew | exact Bel.refl _))); rintro ee ww ⟨rfl, _, rfl⟩) | (go_at_call 28; refine Calls.mono (mem_row (mem_nil w) ?_ (HC.out _ ?_)) ?_; (focus (repeat (first | with_reducible exact Bel.refl _ | with_reducible assumption | apply Bel.ext | apply Bel.alloc | apply Bel.drew | exact Bel.refl _))); (focus (repeat (first | with_reducible exact Bel.refl _ | with_reducible assumption | apply Bel.ext | apply Bel.alloc | apply Bel.drew | exact Bel.refl _))); rintro ee ww ⟨vc, g1, rfl, rfl, hM⟩; (simp only [List.nil_append] at hM); have HM1 := Lib.hid hM; clear hM) | (at_builtin; refine wpList_append_rd rfl (.tmp 24) (.tmp 25) 24 35 16 rfl appWindow w _ 0 _ _ _ rfl a2 n2 c2 zs rfl rfl (HS2.out _ ?_) HM1.out (by omega) (by omega) ?_; (focus (repeat (first | with_reducible exact Bel.refl _ | with_reducible assumption | apply Bel.ext | apply Bel.alloc | apply Bel.drew | exact Bel.refl _))); intro v2 g2 hM; (simp only [List.set_cons_zero] at hM); have HM2 := Lib.hid hM; clear hM) | (go_at_call 24; refine Calls.mono (HL.out _ _ ?_ ?_) ?_; (focus (repeat (first | with_reducible exact Bel.refl _ | with_reducible assumption | apply Bel.ext | apply Bel.alloc | apply Bel.drew | exact Bel.refl _))); (have h0 := HM2.out.own 0 _ rfl; dsimp only at h0; rw [Cel.row_append, List.length_append, ← HZS.out]; exact h0); rintro ee ww ⟨vl, g3, rfl, rfl, hown⟩; obtain ⟨al, cl, rfl, -, -⟩ := own_len hown; have HO := Lib.hid hown; clear hown) | (go_at_call 23; refine Calls.mono (fewWindows_c _ _ _ (by omega) _) ?_; rintro ee ww ⟨rfl, rfl⟩))
          have hh := HR.out
          simp only [if_pos (And.intro HH0.out hn0)] at hh
          rw [← hh]
          exact RetRow.mk' rfl (by (repeat (first | with_reducible exact Bel.refl _ | with_reducible assumption | apply Bel.ext | apply Bel.alloc | apply Bel.drew | exact Bel.refl _ | refine Bel.set ?_ (by first | (simp; done) | (simp [go_sem]; done) | omega) _)) : Bel _ _) (World.ownsRow_nil _ _ _ _)
        · have hn0z : ¬ (0 : Int) < (n : Int) := by omega
          have HH0 := Lib.hid h0
          clear h0
          go_enter Try.func15, Try.ntmps15
          go_wp2_with (first | (go_at_call 22; refine args_guard1 (u := .slice a n c) (by with_reducible rfl) ?_; refine Calls.mono (HV.out _ (HU.out _ ?_)) ?_; (focus (repeat (first | with_reducible exact Bel.refl _ | with_reducible assumption | apply Bel.ext | apply Bel.alloc | apply Bel.drew | exact Bel.refl _))); rintro ee ww ⟨rfl, _, rfl⟩) | (go_at_call 22; refine args_guard1 (u := .slice a' n' c') (by with_reducible rfl) ?_; refine Calls.mono (HV'.out _ (HU'.out _ ?_)) ?_; (focus (repeat (first | with_reducible exact Bel.refl _ | with_reducible assumption | apply Bel.ext | apply Bel.alloc | apply Bel.drew | exact Bel.refl _))); rintro ee ww ⟨rfl, _, rfl⟩) | (go_at_call 22; refine args_guard1 (u := .slice a2 n2 c2) (by with_reducible rfl) ?_; refine Calls.mono (HV2.out _ (HU2.out _ ?_)) ?_; (focus (repeat (first | with_reducible exact Bel.refl _ | with_reducible assumption | apply Bel.ext | apply Bel.alloc | apply Bel.drew | exact Bel.refl _))); rintro ee ww ⟨rfl, _, rfl⟩) | (go_at_call 28; refine Calls.mono (mem_row (mem_nil w) ?_ (HC.out _ ?_)) ?_; (focus (repeat (first | with_reducible exact Bel.refl _ | with_reducible assumption | apply Bel.ext | apply Bel.alloc | apply Bel.drew | exact Bel.refl _))); (focus (repeat (first | with_reducible exact Bel.refl _ | with_reducible assumption | apply Bel.ext | apply Bel.alloc | apply Bel.drew | exact Bel.refl _))); rintro ee ww ⟨vc, g1, rfl, rfl, hM⟩; (simp only [List.nil_append] at hM); have HM1 := Lib.hid hM; clear hM) | (at_builtin; refine wpList_append_rd rfl (.tmp 24) (.tmp 25) 24 35 16 rfl appWindow w _ 0 _ _ _ rfl a2 n2 c2 zs rfl rfl (HS2.out _ ?_) HM1.out (by omega) (by omega) ?_; (focus (repeat (first | with_reducible exact Bel.refl _ | with_reducible assumption | apply Bel.ext | apply Bel.alloc | apply Bel.drew | exact Bel.refl _))); intro v2 g2 hM; (simp only [List.set_cons_zero] at hM); have HM2 := Lib.hid hM; clear hM) | (go_at_call 24; refine Calls.mono (HL.out _ _ ?_ ?_) ?_; (focus (repeat (first | with_reducible exact Bel.refl _ | with_reducible assumption | apply Bel.ext | apply Bel.alloc | apply Bel.drew | exact Bel.refl _))); (have h0 := HM2.out.own 0 _ rfl; dsimp only at h0; rw [Cel.row_append, List.length_append, ← HZS.out]; exact h0); rintro ee ww ⟨vl, g3, rfl, rfl, hown⟩; obtain ⟨al, cl, rfl, -, -⟩ := own_len hown; have HO := Lib.hid hown; clear hown) | (go_at_call 23; refine Calls.mono (fewWindows_c _ _ _ (by omega) _) ?_; rintro ee ww ⟨rfl, rfl⟩))
          have hh := HR.out
          have hng : ¬ (ls.length = 0 ∧ 0 < n) := by omega
          simp only [if_neg hng, if_neg hng3] at hh
          rw [← hh]
          refine RetRow.mk' (v := .slice al ls.length cl) (by simp [hng3]) (by (repeat (first | with_reducible exact Bel.refl _ | with_reducible assumption | apply Bel.ext | apply Bel.alloc | apply Bel.drew | exact Bel.refl _ | refine Bel.set ?_ (by first | (simp; done) | (simp [go_sem]; done) | omega) _)) : Bel _ _) (own_mono HO.out ?_)
          exact (by (repeat (first | with_reducible exact Bel.refl _ | with_reducible assumption | apply Bel.ext | apply Bel.alloc | apply Bel.drew | exact Bel.refl _ | refine Bel.set ?_ (by first | (simp; done) | (simp [go_sem]; done) | omega) _)) : Bel w _).size
      · have hz0 : ¬ ((ls.length : Int) = 0) := by omega
        have hz1 : ((ls.length : Int) == 0) = false := by rw [beq_eq_false_iff_ne]; exact hz0
        go_enter Try.func15, Try.ntmps15
        go_wp2_with (first | (go_at_call 22; refine args_guard1 (u := .slice a n c) (by with_reducible rfl) ?_; refine Calls.mono (HV.out _ (HU.out _ ?_)) ?_; (focus (repeat (first | with_reducible exact Bel.refl _ | with_reducible assumption | apply Bel.ext | apply Bel.alloc | apply Bel.drew | exact Bel.refl _))); rintro ee ww ⟨rfl, _, rfl⟩) | (go_at_call 22; refine args_guard1 (u := .slice a' n' c') (by with_reducible rfl) ?_; refine Calls.mono (HV'.out _ (HU'.out _ ?_)) ?_; (focus (repeat (first | with_reducible exact Bel.refl _ | with_reducible assumption | apply Bel.ext | apply Bel.alloc | apply Bel.drew | exact Bel.refl _))); rintro ee ww ⟨rfl, _, rfl⟩) | (go_at_call 22; refine args_guard1 (u := .slice a2 n2 c2) (by with_reducible rfl) ?_; refine Calls.mono (HV2.out _ (HU2.out _ ?_)) ?_; (focus (repeat (first | with_reducible exact Bel.refl _ | with_reducible assumption | apply Bel.ext | apply Bel.alloc | apply Bel.drew | exact Bel.refl _))); rintro ee ww ⟨rfl, _, rfl⟩) | (go_at_call 28; refine Calls.mono (mem_row (mem_nil w) ?_ (HC.out _ ?_)) ?_; (focus (repeat (first | with_reducible exact Bel.refl _ | with_reducible assumption | apply Bel.ext | apply Bel.alloc | apply Bel.drew | exact Bel.refl _))); (focus (repeat (first | with_reducible exact Bel.refl _ | with_reducible assumption | apply Bel.ext | apply Bel.alloc | apply Bel.drew | exact Bel.refl _))); rintro ee ww ⟨vc, g1, rfl, rfl, hM⟩; (simp only [List.nil_append] at hM); have HM1 := Lib.hid hM; clear hM) | (at_builtin; refine wpList_append_rd rfl (.tmp 24) (.tmp 25) 24 35 16 rfl appWindow w _ 0 _ _ _ rfl a2 n2 c2 zs rfl rfl (HS2.out _ ?_) HM1.out (by omega) (by omega) ?_; (focus (repeat (first | with_reducible exact Bel.refl _ | with_reducible assumption | apply Bel.ext | apply Bel.alloc | apply Bel.drew | exact Bel.refl _))); intro v2 g2 hM; (simp only [List.set_cons_zero] at hM); have HM2 := Lib.hid hM; clear hM) | (go_at_call 24; refine Calls.mono (HL.out _ _ ?_ ?_) ?_; (focus (repeat (first | with_reducible exact Bel.refl _ | with_reducible assumption | apply Bel.ext | apply Bel.alloc | apply Bel.drew | exact Bel.refl _))); (have h0 := HM2.out.own 0 _ rfl; dsimp only at h0; rw [Cel.row_append, List.length_append, ← HZS.out]; exact h0); rintro ee ww ⟨vl, g3, rfl, rfl, hown⟩; obtain ⟨al, cl, rfl, -, -⟩ := own_len hown; have HO := Lib.hid hown; clear hown) | (go_at_call 23; refine Calls.mono (fewWindows_c _ _ _ (by omega) _) ?_; rintro ee ww ⟨rfl, rfl⟩))
        have hh := HR.out
        have hng : ¬ (ls.length = 0 ∧ 0 < n) := by omega
        simp only [if_neg hng, if_neg hng3] at hh
        rw [← hh]
        refine RetRow.mk' (v := .slice al ls.length cl) (by simp [hng3]) (by (repeat (first | with_reducible exact Bel.refl _ | with_reducible assumption | apply Bel.ext | apply Bel.alloc | apply Bel.drew | exact Bel.refl _ | refine Bel.set ?_ (by first | (simp; done) | (simp [go_sem]; done) | omega) _)) : Bel _ _) (own_mono HO.out ?_)
        exact (by (repeat (first | with_reducible exact Bel.refl _ | with_reducible assumption | apply Bel.ext | apply Bel.alloc | apply Bel.drew | exact Bel.refl _ | refine Bel.set ?_ (by first | (simp; done) | (simp [go_sem]; done) | omega) _)) : Bel w _).size
  all_goals
    clear h1 h2 h3
    go_enter Try.func15, Try.ntmps15
    go_wp2_with (first | (go_at_call 22; refine args_guard1 (u := .slice a n c) (by with_reducible rfl) ?_; refine Calls.mono (HV.out _ (HU.out _ ?_)) ?_; (focus (repeat (first | with_reducible exact Bel.refl _ | with_reducible assumption | apply Bel.ext | apply Bel.alloc | apply Bel.drew | exact Bel.refl _))); rintro ee ww ⟨rfl, _, rfl⟩) | (go_at_call 22; refine args_guard1 (u := .slice a' n' c') (by with_reducible rfl) ?_; refine Calls.mono (HV'.out _ (HU'.out _ ?_)) ?_; (focus (repeat (first | with_reducible exact Bel.refl _ | with_reducible assumption | apply Bel.ext | apply Bel.alloc | apply Bel.drew | exact Bel.refl _))); rintro ee ww ⟨rfl, _, rfl⟩) | (go_at_call 22; refine args_guard1 (u := .slice a2 n2 c2) (by with_reducible rfl) ?_; refine Calls.mono (HV2.out _ (HU2.out _ ?_)) ?_; (focus (repeat (first | with_reducible exact Bel.refl _ | with_reducible assumption | apply Bel.ext | apply Bel.alloc | apply Bel.drew | exact Bel.refl _))); rintro ee ww ⟨rfl, _, rfl⟩))
    rw [← HR.out]
    exact RetRow.mk' rfl (by (repeat (first | with_reducible exact Bel.refl _ | with_reducible assumption | apply Bel.ext | apply Bel.alloc | apply Bel.drew | exact Bel.refl _ | refine Bel.set ?_ (by first | (simp; done) | (simp [go_sem]; done) | omega) _)) : Bel _ _) (World.ownsRow_nil _ _ _ _)
end Go.Proofs.Ytdneffnnpjgnbab
