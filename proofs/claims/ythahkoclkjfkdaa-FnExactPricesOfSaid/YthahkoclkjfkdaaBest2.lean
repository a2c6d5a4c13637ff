/- The first assignment with the greatest worth: the reference. -/
import Derived.Test.YthahkoclkjfkdaaBest
namespace Go.Proofs.Ythahkoclkjfkdaa
open Go.RowKit

set_option maxRecDepth 100000 in
set_option maxHeartbeats 4000000 in
theorem l17Best_c (u : Value) (ws : List (List Int)) (h1 : worthsB ws = true) (w : World) (hu : RdN w u ws) :
    Calls Try.prog 55 #[u] w (RetRow 2 1 (fun v => v) (bestFrom ws 0 0 ws).length (celI.row (bestFrom ws 0 0 ws)) w) := by
  generalize hR : RetRow _ _ _ _ _ w = R
  have HR := Lib.hid hR
  clear hR
  have hT := fun w hu => l17Table_c u ws h1 w hu
  have hu' := hu
  obtain ⟨a, n, c, rfl, hs⟩ := hu
  have hcap := hs.le; have hmax := hs.cap
  unfold maxLen at hmax
  have HL := Lib.hid hs.len
  obtain ⟨f1, f2, f3, f4, f5⟩ := worthsB_fine h1
  rw [← HL.out] at f1 f2
  have HB := Lib.hid (tabAt_bd h1)
  have HT := Lib.hid hT
  have HF := Lib.hid f5
  have HP := Lib.hid (pow_le8 f4)
  clear hT h1 f5
  obtain ⟨b, off, rfl, hb⟩ := hs.base (k := 0) (by omega)
  obtain ⟨a0, n0, c0, xs0, hx0, hd0, hs0⟩ := hs.row (k := 0) (by omega)
  rw [Nat.add_zero] at hd0
  have hl0 := hs0.len
  have hci0 := hs0.le; have hcm0 := hs0.cap
  unfold maxLen at hcm0
  have HW := Lib.hid (show wid ws = n0 by rw [wid_of hx0.out, hl0])
  rw [HW.out] at f3 f4
  clear hl0
  have z0 : (0 : Int) < n := by omega
  have wn0 : IntKind.i64.wrap (n0 : Int) = (n0 : Int) := IntWalk.i64_in _ (by omega)
  go_enter Try.func55, Try.ntmps55
  go_wp2_with (first | (go_at_call 46; refine Calls.mono (HT.out _ (hu'.bel ?_)) ?_; (focus (repeat (first | with_reducible exact Bel.refl _ | with_reducible assumption | apply Bel.ext | apply Bel.alloc | apply Bel.drew | exact Bel.refl _))); rintro ee A ⟨v0, g0, rfl, hww, hN⟩; rw [← hww] at hN; have hwA : Bel w A := (by rw [hww]; (repeat (first | with_reducible exact Bel.refl _ | with_reducible assumption | apply Bel.ext | apply Bel.alloc | apply Bel.drew | exact Bel.refl _ | refine Bel.set ?_ (by first | (simp; done) | (simp [go_sem]; done) | omega) _))); clear hww; have hd0A : A.cell? ⟨b, off, none⟩ = some (.slice a0 n0 c0) := (by rw [Below.cell hwA (p := ⟨b, off, none⟩) hb]; exact hd0); have hbA := Nat.lt_of_lt_of_le hb hwA.size))
  obtain ⟨aT, nT, cT, rfl, hsT⟩ := hN
  have hlT := hsT.len
  rw [tabL_len, ← HL.out] at hlT
  have hcT := hsT.le; have hmT := hsT.cap
  unfold maxLen at hmT
  subst hlT
  obtain ⟨bT, oT, rfl, hbT⟩ := hsT.base (k := 0) (by omega)
  have HROW := Lib.hid (fun (i : Nat) (hi : i ≤ ws.length) => tabL_row hsT hi)
  replace hs := hs.bel hwA
  obtain ⟨S, hS⟩ : ∃ S, S = 2 ^ wid ws := ⟨_, rfl⟩
  rw [← hS] at HROW HP
  have hpos : 0 < S := by rw [hS]; exact Nat.two_pow_pos _
  have HS := Lib.hid hS
  have hp8 := HP.out
  clear hS hsT
  have hwAs := hwA.size
  go_loopw [5, 6, 7, 8] (fun td o i _ wr => ∃ (k t : Nat) (pre : List Int), k ≤ n ∧ i = .int .i64 k ∧ td = .int .i64 t ∧ t < S ∧ pre.length ≤ k ∧ Bel A wr ∧ Hid (bestFrom ws 0 0 ws = pre ++ bestFrom ws k t (ws.drop k)) ∧ Hid (wr.ownsRow A.heap.size 2 1 o pre.length (celI.row pre))) (fun _ _ i _ _ => n - (intOf i).toNat)
  case atStart => exact ⟨0, 0, [], Nat.zero_le _, rfl, rfl, hpos, Nat.le_refl _, by (repeat (first | with_reducible exact Bel.refl _ | with_reducible assumption | apply Bel.ext | apply Bel.alloc | apply Bel.drew | exact Bel.refl _ | refine Bel.set ?_ (by first | (simp; done) | (simp [go_sem]; done) | omega) _)), Lib.hid rfl, Lib.hid (by refine own_empty _ _ _ _ ?_; exact bel_size (by (repeat (first | with_reducible exact Bel.refl _ | with_reducible assumption | apply Bel.ext | apply Bel.alloc | apply Bel.drew | exact Bel.refl _ | refine Bel.set ?_ (by first | (simp; done) | (simp [go_sem]; done) | omega) _))))⟩
  case round =>
    obtain ⟨k, t, pre, hk, rfl, rfl, htS, hpl, hbel, hpre, hown⟩ := hrel
    obtain ⟨g, hg⟩ := ext_ex hbel
    subst hg
    by_cases hlt : k < n
    · obtain ⟨ai, ni, ci, row, hx, hc0, hsi⟩ := hs.row hlt
      have hci := hsi.le; have hcm := hsi.cap
      unfold maxLen at hcm
      obtain ⟨e1, e2⟩ := HF.out row (List.mem_of_getElem? hx.out)
      have hni : ni = wid ws := by rw [hsi.len, e1]
      have hnn : ni = n0 := by rw [hni, HW.out]
      subst hnn
      obtain ⟨b1, o1, c1, r1, r2, r3, r4, r5⟩ := HROW.out k (by rw [← HL.out]; omega)
      obtain ⟨b2, o2, c2, q1, q2, q3, q4, q5⟩ := HROW.out (k + 1) (by rw [← HL.out]; omega)
      unfold maxLen at r4 q4
      obtain ⟨due, hdue⟩ : ∃ d, (tabAt ws k)[t]? = some d := ⟨_, List.getElem?_eq_getElem (by rw [tabAt_len, ← HS.out]; exact htS)⟩
      obtain ⟨nxv, hnxv⟩ : ∃ d, (tabAt ws (k + 1))[t]? = some d := ⟨_, List.getElem?_eq_getElem (by rw [tabAt_len, ← HS.out]; exact htS)⟩
      have G1 := r5 _ _ hdue
      have G2 := q5 _ _ hnxv
      have E2 := Lib.hid e2
      have E1 := Lib.hid e1
      have HNI := Lib.hid hni
      have Q5 := Lib.hid q5
      have HD := Lib.hid hdue
      have HNV := Lib.hid hnxv
      clear e2 e1 hni r5 q5 hdue hnxv
      have w5a : IntKind.i64.wrap ((k : Int) + 1) = (k : Int) + 1 := IntWalk.i64_in _ (by omega)
      have zk : (k : Int) < (n : Int) := by omega
      have z1 : (0 : Int) ≤ (k : Int) := by omega
      have z2 : (k : Int) < ((n + 1 : Nat) : Int) := by omega
      have z3 : (0 : Int) ≤ (k : Int) + 1 := by omega
      have z4 : (k : Int) + 1 < ((n + 1 : Nat) : Int) := by omega
      have z5 : (0 : Int) ≤ (t : Int) := by omega
      have z6 : (t : Int) < (S : Int) := Int.ofNat_lt.2 htS
      have z7 : ((k : Int) + 1).toNat = k + 1 := by omega
      by_cases hq : nxv = due
      · subst hq
        have hqz : (nxv == nxv) = true := by simp
        have HPR := Lib.hid (hpre.out.trans (by rw [bestFrom_same hx.out HNV.out HD.out] : _ = pre ++ (-1 :: bestFrom ws (k + 1) t (ws.drop (k + 1)))))
        clear hpre
        go_wp2_with fail
        refine region_ext (by kernel_rfl) (by kernel_rfl) ?_
        repeat (go_big_quiet_step (fail))
        refine wpQuiet_nil ?_
        rintro _ ⟨_, rfl⟩
        go_wp2_with (first | (at_builtin; refine wpList_append_new rfl (.tmp 38) (.tmp 39) 27 2 1 8 rfl appIntT (by decide) A _ _ _ 1 [.int .i64 (-1)] rfl (by first | with_reducible rfl | (simp [go_sem]; done)) rfl (by intro u hu; simp at hu; first | (subst hu; rfl) | (rcases hu with rfl | rfl <;> rfl) | (rcases hu with rfl | rfl | rfl <;> rfl)) (own_bel hown.out ?_) ?_ (by omega) (by omega) ?_; (focus (repeat (first | with_reducible exact Bel.refl _ | with_reducible assumption | apply Bel.ext | apply Bel.alloc | apply Bel.drew | exact Bel.refl _))); (focus (repeat (first | with_reducible exact Bel.refl _ | with_reducible assumption | apply Bel.ext | apply Bel.alloc | apply Bel.drew | exact Bel.refl _))); intro v2 g2 hown2 hgr2))
        go_roundw
        case rel =>
          refine ⟨k + 1, t, pre ++ [-1], by omega, by go_num, rfl, htS, by simp; omega, by (repeat (first | with_reducible exact Bel.refl _ | with_reducible assumption | apply Bel.ext | apply Bel.alloc | apply Bel.drew | exact Bel.refl _ | refine Bel.set ?_ (by first | (simp; done) | (simp [go_sem]; done) | omega) _)), Lib.hid (by rw [HPR.out]; simp), Lib.hid ?_⟩
          rw [Cel.row_append, Cel.row_one, List.length_append]; exact hown2
        case measure => simp [intOf]; omega
      · have hqz : (nxv == due) = false := by simp [hq]
        have HPK := Lib.hid (hpre.out.trans (by rw [bestFrom_pick hx.out HNV.out HD.out hq]))
        clear hpre hq
        have G1h := Lib.hid G1
        go_wp2_with fail
        refine region_ext (by kernel_rfl) (by kernel_rfl) ?_
        repeat (go_big_quiet_step (fail))
        refine wpQuiet_nil ?_
        rintro _ ⟨g8, rfl⟩
        go_wp2
        go_loopw [5, 6, 8] (fun td o2 i wr => td = .int .i64 t ∧ ∃ j : Nat, j ≤ ni ∧ i = .int .i64 j ∧ Bel (ext A g) wr ∧ Hid (wr.ownsRow A.heap.size 2 1 o2 pre.length (celI.row pre)) ∧ Hid (pick (tabAt ws (k + 1)) t due 0 row = pick (tabAt ws (k + 1)) t due j (row.drop j))) (fun _ _ i _ => ni - (intOf i).toNat)
        case atStart => exact ⟨rfl, 0, Nat.zero_le _, rfl, by (repeat (first | with_reducible exact Bel.refl _ | with_reducible assumption | apply Bel.ext | apply Bel.alloc | apply Bel.drew | exact Bel.refl _ | refine Bel.set ?_ (by first | (simp; done) | (simp [go_sem]; done) | omega) _)), Lib.hid (own_bel hown.out (by (repeat (first | with_reducible exact Bel.refl _ | with_reducible assumption | apply Bel.ext | apply Bel.alloc | apply Bel.drew | exact Bel.refl _ | refine Bel.set ?_ (by first | (simp; done) | (simp [go_sem]; done) | omega) _)))), Lib.hid rfl⟩
        case round =>
          obtain ⟨rfl, j, hj, rfl, hbel2, hown2, hpk⟩ := hrel
          obtain ⟨g2, hg2⟩ := ext_ex hbel2
          subst hg2
          clear hown
          have hown := hown2
          clear hown2
          by_cases hlt2 : j < ni
          · obtain ⟨bi, oi, rfl, hbi⟩ := hsi.base hlt2
            obtain ⟨y, hy, hcy⟩ := hsi.at1 hlt2
            obtain ⟨y1, y2⟩ := E2.out y (List.mem_of_getElem? hy.out)
            have hjw : j < wid ws := by rw [← HNI.out]; exact hlt2
            have hor : t ||| 2 ^ j < S := by rw [HS.out]; exact or_lt (by rw [← HS.out]; exact htS) hjw
            obtain ⟨x, hx9⟩ : ∃ x, (tabAt ws (k + 1))[t ||| 2 ^ j]? = some x := ⟨_, List.getElem?_eq_getElem (by rw [tabAt_len, ← HS.out]; exact hor)⟩
            have hcx := Q5.out _ _ hx9
            obtain ⟨x1, x2⟩ := HB.out (k + 1) x (List.mem_of_getElem? hx9)
            have hpp := hpk.out
            rw [pick_at hy.out hx9] at hpp
            have v7 : (0 : Int) ≤ (j : Int) := by omega
            have v8 : (j : Int) < (ni : Int) := Int.ofNat_lt.2 hlt2
            have wj : IntKind.i64.wrap (j : Int) = (j : Int) := IntWalk.i64_in _ (by omega)
            have w4 : IntKind.i64.wrap (y + x) = y + x := IntWalk.i64_in _ (by omega)
            have w5 : IntKind.i64.wrap ((k : Int) + 1) = (k : Int) + 1 := IntWalk.i64_in _ (by omega)
            have v5 : (0 : Int) ≤ ((t ||| 2 ^ j : Nat) : Int) := Int.natCast_nonneg _
            have v6 : ((t ||| 2 ^ j : Nat) : Int) < (S : Int) := Int.ofNat_lt.2 hor
            have hbt := bit_test (t := t) (k := j) (Nat.lt_of_lt_of_le htS (Nat.le_trans hp8 (by decide)))
            have hpk2 : 2 ^ j < 256 := Nat.lt_of_lt_of_le (Nat.pow_lt_pow_right (a := 2) (by decide) hjw) (by rw [← HS.out]; exact hp8)
            have p1 := pow64 (k := j) (by have := f4; omega)
            have p2 := bits_or_nat t (2 ^ j) (Nat.lt_of_lt_of_le htS (Nat.le_trans hp8 (by decide))) (Nat.lt_trans hpk2 (by decide))
            obtain ⟨ix, hix⟩ : ∃ ix, ix = t ||| 2 ^ j := ⟨_, rfl⟩
            rw [← hix] at hcx v5 v6 p2 hor
            have p3 : bits .or .i64 (t : Int) ((2 : Int) ^ j) = (ix : Int) := by rw [← p2]; simp
            have HIX := Lib.hid hix
            have H9 := Lib.hid hx9
            clear hix hpk2 hx9 hpk
            rcases htb : t.testBit j with _ | _ <;> rw [htb] at hbt hpp
            · by_cases hyx : y + x = due
              · have hyz : (y + x == due) = true := by simp [hyx]
                have HPP := Lib.hid (hpp.trans (by simp [hyx] : _ = some j))
                clear hpp hyx htb
                have HPR := Lib.hid (show bestFrom ws 0 0 ws = (pre ++ [(j : Int)]) ++ bestFrom ws (k + 1) ix (ws.drop (k + 1)) by rw [HPK.out, HPP.out, HIX.out]; simp)
                go_wp2_with fail
                refine region_ext (by kernel_rfl) (by kernel_rfl) ?_
                repeat (go_big_quiet_step (fail))
                refine wpQuiet_nil ?_
                rintro _ ⟨_, rfl⟩
                go_wp2_with (first | (at_builtin; refine wpList_append_new rfl (.tmp 82) (.tmp 84) 27 2 1 8 rfl appIntT (by decide) A _ _ _ 1 [.int .i64 (j : Int)] rfl (by first | with_reducible rfl | (simp [go_sem]; done)) rfl (by intro u hu; simp at hu; first | (subst hu; rfl) | (rcases hu with rfl | rfl <;> rfl) | (rcases hu with rfl | rfl | rfl <;> rfl)) (own_bel hown.out ?_) ?_ (by omega) (by omega) ?_; (focus (repeat (first | with_reducible exact Bel.refl _ | with_reducible assumption | apply Bel.ext | apply Bel.alloc | apply Bel.drew | exact Bel.refl _))); (focus (repeat (first | with_reducible exact Bel.refl _ | with_reducible assumption | apply Bel.ext | apply Bel.alloc | apply Bel.drew | exact Bel.refl _))); intro v2 g2 hown2 hgr2))
                clear p1 p2 p3
                go_roundw
                case rel =>
                  refine ⟨k + 1, ix, pre ++ [(j : Int)], by omega, by go_num, rfl, hor, by simp; omega, by (repeat (first | with_reducible exact Bel.refl _ | with_reducible assumption | apply Bel.ext | apply Bel.alloc | apply Bel.drew | exact Bel.refl _ | refine Bel.set ?_ (by first | (simp; done) | (simp [go_sem]; done) | omega) _)), HPR, Lib.hid ?_⟩
                  rw [Cel.row_append, Cel.row_one, List.length_append]; exact hown2
                case measure => simp [intOf]; omega
              · have hyz : (y + x == due) = false := by simp [hyx]
                have HPP := Lib.hid (hpp.trans (by simp [hyx] : _ = pick (tabAt ws (k + 1)) t due (j + 1) (row.drop (j + 1))))
                clear hpp hyx htb
                go_wp2_with fail
                refine region_ext (by kernel_rfl) (by kernel_rfl) ?_
                repeat (go_big_quiet_step (fail))
                refine wpQuiet_nil ?_
                rintro _ ⟨_, rfl⟩
                clear p1 p2 p3
                go_wp2
                go_roundw
                case rel => exact ⟨rfl, j + 1, by omega, by go_num, by (repeat (first | with_reducible exact Bel.refl _ | with_reducible assumption | apply Bel.ext | apply Bel.alloc | apply Bel.drew | exact Bel.refl _ | refine Bel.set ?_ (by first | (simp; done) | (simp [go_sem]; done) | omega) _)), Lib.hid (own_bel hown.out (by (repeat (first | with_reducible exact Bel.refl _ | with_reducible assumption | apply Bel.ext | apply Bel.alloc | apply Bel.drew | exact Bel.refl _ | refine Bel.set ?_ (by first | (simp; done) | (simp [go_sem]; done) | omega) _)))), HPP⟩
                case measure => simp [intOf]; omega
            · have HPP := Lib.hid (hpp.trans (by simp : _ = pick (tabAt ws (k + 1)) t due (j + 1) (row.drop (j + 1))))
              clear hpp htb
              go_wp2_with fail
              refine region_ext (by kernel_rfl) (by kernel_rfl) ?_
              repeat (go_big_quiet_step (fail))
              refine wpQuiet_nil ?_
              rintro _ ⟨_, rfl⟩
              clear p1 p2 p3
              go_wp2
              go_roundw
              case rel => exact ⟨rfl, j + 1, by omega, by go_num, by (repeat (first | with_reducible exact Bel.refl _ | with_reducible assumption | apply Bel.ext | apply Bel.alloc | apply Bel.drew | exact Bel.refl _ | refine Bel.set ?_ (by first | (simp; done) | (simp [go_sem]; done) | omega) _)), Lib.hid (own_bel hown.out (by (repeat (first | with_reducible exact Bel.refl _ | with_reducible assumption | apply Bel.ext | apply Bel.alloc | apply Bel.drew | exact Bel.refl _ | refine Bel.set ?_ (by first | (simp; done) | (simp [go_sem]; done) | omega) _)))), HPP⟩
              case measure => simp [intOf]; omega
          · have hpp := hpk.out
            rw [pick_end (by rw [E1.out, ← HNI.out]; omega)] at hpp
            have HPP := Lib.hid (show bestFrom ws 0 0 ws = pre ++ bestFrom ws (k + 1) t (ws.drop (k + 1)) by rw [HPK.out, hpp])
            clear hpp hpk
            go_wp2
            go_roundw
            case rel => exact ⟨k + 1, t, pre, by omega, by go_num, rfl, htS, by omega, by (repeat (first | with_reducible exact Bel.refl _ | with_reducible assumption | apply Bel.ext | apply Bel.alloc | apply Bel.drew | exact Bel.refl _ | refine Bel.set ?_ (by first | (simp; done) | (simp [go_sem]; done) | omega) _)), HPP, hown⟩
            case measure => simp [intOf]; omega
    · have hkn : k = n := by omega
      have HP0 := Lib.hid (show bestFrom ws 0 0 ws = pre by rw [hpre.out, List.drop_of_length_le (by rw [← HL.out]; omega), bestFrom, List.append_nil])
      rw [HP0.out] at HR
      clear hkn
      go_wp2
      rw [← HR.out]
      refine RetRow.mk' rfl ?_ (own_mono hown.out hwA.size)
      exact Below.trans hwA (Below.mono (by (repeat (first | with_reducible exact Bel.refl _ | with_reducible assumption | apply Bel.ext | apply Bel.alloc | apply Bel.drew | exact Bel.refl _ | refine Bel.set ?_ (by first | (simp; done) | (simp [go_sem]; done) | omega) _)) : Bel A _) hwA.size)
set_option maxHeartbeats 1000000 in
theorem sBestAssignment_c (u : Value) (ws : List (List Int)) (w : World) (hu : RdN w u ws) :
    Calls Try.prog 34 #[u] w (RetRow 2 1 (fun v => .tuple #[v, .int .i64 (bestI ws).2]) (bestI ws).1.length (celI.row (bestI ws).1) w) := by
  generalize hR : RetRow _ _ _ _ _ w = R
  have HR := Lib.hid hR
  clear hR
  have HV := Lib.hid (fun w hu => l17Ok_c u ws w hu)
  have hT := fun h w hu => l17Best_c u ws h w hu
  unfold bestI at HR
  rcases h1 : worthsB ws with _ | _ <;> rw [h1] at HR HV
  · clear hT h1
    go_enter Try.func34, Try.ntmps34
    go_wp2_with (first | (go_at_call 39; refine Calls.mono (HV.out _ (hu.bel ?_)) ?_; (focus (repeat (first | with_reducible exact Bel.refl _ | with_reducible assumption | apply Bel.ext | apply Bel.alloc | apply Bel.drew | exact Bel.refl _))); rintro ee ww ⟨rfl, _, rfl⟩))
    rw [← HR.out]
    exact RetRow.mk' rfl (by (repeat (first | with_reducible exact Bel.refl _ | with_reducible assumption | apply Bel.ext | apply Bel.alloc | apply Bel.drew | exact Bel.refl _ | refine Bel.set ?_ (by first | (simp; done) | (simp [go_sem]; done) | omega) _)) : Bel _ _) (World.ownsRow_nil _ _ _ _)
  have HT := Lib.hid (hT h1)
  clear hT h1
  simp only [Bool.not_true, Bool.false_eq_true, if_false] at HR
  go_enter Try.func34, Try.ntmps34
  go_wp2_with (first | (go_at_call 39; refine Calls.mono (HV.out _ (hu.bel ?_)) ?_; (focus (repeat (first | with_reducible exact Bel.refl _ | with_reducible assumption | apply Bel.ext | apply Bel.alloc | apply Bel.drew | exact Bel.refl _))); rintro ee ww ⟨rfl, _, rfl⟩) | (go_at_call 55; refine Calls.mono (HT.out _ (hu.bel ?_)) ?_; (focus (repeat (first | with_reducible exact Bel.refl _ | with_reducible assumption | apply Bel.ext | apply Bel.alloc | apply Bel.drew | exact Bel.refl _))); rintro ee ww ⟨v0, g0, rfl, rfl, hown⟩))
  rw [← HR.out]
  refine RetRow.mk' rfl (by (repeat (first | with_reducible exact Bel.refl _ | with_reducible assumption | apply Bel.ext | apply Bel.alloc | apply Bel.drew | exact Bel.refl _ | refine Bel.set ?_ (by first | (simp; done) | (simp [go_sem]; done) | omega) _)) : Bel _ _) ?_
  refine own_mono hown (bel_size ?_)
  (repeat (first | with_reducible exact Bel.refl _ | with_reducible assumption | apply Bel.ext | apply Bel.alloc | apply Bel.drew | exact Bel.refl _ | refine Bel.set ?_ (by first | (simp; done) | (simp [go_sem]; done) | omega) _))
end Go.Proofs.Ythahkoclkjfkdaa
