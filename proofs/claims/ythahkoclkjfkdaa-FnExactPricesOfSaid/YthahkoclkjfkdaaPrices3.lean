/- Prices that prove the greatest worth: the reference. -/
import Derived.Test.YthahkoclkjfkdaaPrices2
import Derived.Test.YthahkoclkjfkdaaBest2
namespace Go.Proofs.Ythahkoclkjfkdaa
open Go.RowKit

set_option maxRecDepth 100000 in
set_option maxHeartbeats 4000000 in
theorem sPricesOf_c (u : Value) (ws : List (List Int)) (w : World) (hu : RdN w u ws) :
    Calls Try.prog 29 #[u] w (RetRow2 2 (priceI ws).1 (priceI ws).2.1 (priceI ws).2.2 w) := by
  generalize hR : RetRow2 _ _ _ _ w = R
  have HR := Lib.hid hR
  clear hR
  have HV := Lib.hid (fun w hu => l17Ok_c u ws w hu)
  have hT := fun h w hu => l17Table_c u ws h w hu
  have hfine := worthsB_fine (xss := ws)
  unfold priceI at HR
  have hu' := hu
  obtain ⟨a, n, c, rfl, hs⟩ := hu
  have hcap := hs.le; have hmax := hs.cap
  unfold maxLen at hmax
  have HL := Lib.hid hs.len
  rcases h1 : worthsB ws with _ | _ <;> rw [h1] at HR HV
  · clear hT h1 hfine
    go_enter Try.func29, Try.ntmps29
    go_wp2_with (first | (go_at_call 39; refine Calls.mono (HV.out _ (hu'.bel ?_)) ?_; (focus (repeat (first | with_reducible exact Bel.refl _ | with_reducible assumption | apply Bel.ext | apply Bel.alloc | apply Bel.drew | exact Bel.refl _))); rintro ee ww ⟨rfl, g1, rfl⟩))
    simp only [Bool.not_false, if_true] at HR
    refine bodyPost_ret (v := .tuple #[.slice none 0 0, .slice none 0 0, .int .i64 1]) (by simp [results, Try.results29, go_sem]) rfl ?_
    rw [← HR.out]
    refine ⟨.slice none 0 0, .slice none 0 0, g1, rfl, rfl, ?_⟩
    exact mem_nils ((Bel.refl w).ext g1) _
  obtain ⟨f1, f2, f3, f4, f5⟩ := hfine h1
  rw [← HL.out] at f1 f2
  have HB := Lib.hid (tabAt_bd h1)
  have HSB := Lib.hid (starsUp_bd h1)
  have HT := Lib.hid (hT h1)
  have HF := Lib.hid f5
  have HP := Lib.hid (pow_le8 f4)
  clear hT h1 hfine f5
  simp only [Bool.not_true, Bool.false_eq_true, if_false] at HR
  obtain ⟨b, off, rfl, hb⟩ := hs.base (k := 0) (by omega)
  obtain ⟨a0, n0, c0, xs0, hx0, hd0, hs0⟩ := hs.row (k := 0) (by omega)
  rw [Nat.add_zero] at hd0
  have hl0 := hs0.len
  have hci0 := hs0.le; have hcm0 := hs0.cap
  unfold maxLen at hcm0
  have HW := Lib.hid (show wid ws = n0 by rw [wid_of hx0.out, hl0])
  rw [HW.out] at f3 f4 HR HP
  clear hl0
  have z0 : (0 : Int) < n := by omega
  go_enter Try.func29, Try.ntmps29
  go_wp2_with (first | (go_at_call 39; refine Calls.mono (HV.out _ (hu'.bel ?_)) ?_; (focus (repeat (first | with_reducible exact Bel.refl _ | with_reducible assumption | apply Bel.ext | apply Bel.alloc | apply Bel.drew | exact Bel.refl _))); rintro ee ww ⟨rfl, g1, rfl⟩) | (go_at_call 46; refine Calls.mono (HT.out _ (hu'.bel ?_)) ?_; (focus (repeat (first | with_reducible exact Bel.refl _ | with_reducible assumption | apply Bel.ext | apply Bel.alloc | apply Bel.drew | exact Bel.refl _))); rintro ee A ⟨v0, g0, rfl, hww, hN⟩; rw [← hww] at hN; have hwA : Bel w A := (by rw [hww]; (repeat (first | with_reducible exact Bel.refl _ | with_reducible assumption | apply Bel.ext | apply Bel.alloc | apply Bel.drew | exact Bel.refl _ | refine Bel.set ?_ (by first | (simp; done) | (simp [go_sem]; done) | omega) _))); clear hww; have hd0A : A.cell? ⟨b, off, none⟩ = some (.slice a0 n0 c0) := (by rw [Below.cell hwA (p := ⟨b, off, none⟩) hb]; exact hd0); have hbA := Nat.lt_of_lt_of_le hb hwA.size; obtain ⟨aT, nT, cT, rfl, hsT⟩ := hN; have hlT := hsT.len; rw [tabL_len, ← HL.out] at hlT; have hcT := hsT.le; have hmT := hsT.cap; unfold maxLen at hmT; subst hlT; obtain ⟨bT, oT, rfl, hbT⟩ := hsT.base (k := 0) (by omega); obtain ⟨b1, o1, c1, r1, r2, r3, r4, r5⟩ := tabL_row hsT (Nat.zero_le _); rw [Nat.add_zero] at r1; unfold maxLen at r4; have R5 := Lib.hid r5; have HS := Lib.hid hsT; clear r5 hsT))
  obtain ⟨S, hS⟩ : ∃ S, S = 2 ^ wid ws := ⟨_, rfl⟩
  have hSp : 0 < S := by rw [hS]; exact Nat.two_pow_pos _
  have HSS := Lib.hid (show S = 2 ^ n0 by rw [hS, HW.out])
  have HSW := Lib.hid hS
  rw [← hS] at r1 r3
  clear hS
  obtain ⟨x0, hx00⟩ : ∃ x, (tabAt ws 0)[0]? = some x := ⟨_, List.getElem?_eq_getElem (by rw [tabAt_len, ← HSW.out]; exact hSp)⟩
  have G0 := R5.out 0 x0 hx00
  rw [Nat.add_zero] at G0
  obtain ⟨y1, y2⟩ := HB.out 0 x0 (List.mem_of_getElem? hx00)
  have HX0 := Lib.hid hx00
  clear hx00
  have hM0 := mem_lit (mem_nil A) 2 1 [] 0 rfl (by unfold maxLen; omega)
  simp only [List.nil_append] at hM0
  have HM0 := Lib.hid hM0
  clear hM0
  go_loopw [6, 7] (fun v i wr => ∃ k : Nat, k ≤ n0 ∧ i = .int .i64 k ∧ Hid (Mem A wr [⟨v, 2, 1, k, celI.row (starsUp ws k)⟩])) (fun _ i _ => n0 - (intOf i).toNat)
  case atStart => exact ⟨0, Nat.zero_le _, rfl, HM0⟩
  case round =>
    obtain ⟨k, hk, rfl, hM⟩ := hrel
    clear HM0
    obtain ⟨g, hg⟩ := ext_ex hM.out.bel
    subst hg
    by_cases hlt : k < n0
    · have hpk : 2 ^ k < S := by rw [HSS.out]; exact Nat.pow_lt_pow_right (by omega) hlt
      obtain ⟨xk, hxk⟩ : ∃ x, (tabAt ws 0)[2 ^ k]? = some x := ⟨_, List.getElem?_eq_getElem (by rw [tabAt_len, ← HSW.out]; exact hpk)⟩
      have GK := R5.out _ xk hxk
      obtain ⟨y3, y4⟩ := HB.out 0 xk (List.mem_of_getElem? hxk)
      have HST := Lib.hid (show starP ws k = x0 - xk by unfold starP; rw [getD_of HX0.out, getD_of hxk])
      have w4 : IntKind.i64.wrap (x0 - xk) = x0 - xk := IntWalk.i64_in _ (by omega)
      have v1 : (0 : Int) ≤ (k : Int) := by omega
      have v2 : (0 : Int) < (S : Int) := by omega
      have v2a : 0 < S := hSp
      have v2b : (0 : Int) < ((n + 1 : Nat) : Int) := by omega
      have wk : IntKind.i64.wrap (k : Int) = (k : Int) := IntWalk.i64_in _ (by omega)
      have wu2 : (k : Int) % 18446744073709551616 = (k : Int) := by omega
      have wu : IntKind.u64.wrap (k : Int) = (k : Int) := by rw [IntKind.wrap_u64]; exact wu2
      have v5 : (0 : Int) ≤ ((2 ^ k : Nat) : Int) := Int.natCast_nonneg _
      have v6 : ((2 ^ k : Nat) : Int) < (S : Int) := Int.ofNat_lt.2 hpk
      have p1 := pow64 (k := k) (by omega)
      have p2 : IntKind.i64.wrap ((2 : Int) ^ k) = ((2 ^ k : Nat) : Int) := by have h := p1; unfold wrap64 at h; rw [IntKind.wrap_i64]; exact h
      obtain ⟨ix, hix⟩ : ∃ ix, ix = 2 ^ k := ⟨_, rfl⟩
      rw [← hix] at GK v5 v6 p1 p2
      clear hix hpk hxk
      go_wp2_with fail
      go_region_held3 (fun q => q.cell? ⟨bT, oT, none⟩ = some (.slice (some ⟨b1, o1, none⟩) S c1) ∧ q.cell? ⟨b1, o1, none⟩ = some (.int .i64 x0) ∧ q.cell? ⟨b1, o1 + ix, none⟩ = some (.int .i64 xk)) (simp [go_sem, *]) (first | (refine step_append_mem (by rfl) (.tmp 26) (.tmp 41) 27 2 1 8 (by rfl) appIntT (by decide) A _ 0 _ _ _ rfl 1 [.int .i64 (x0 - xk)] (by rfl) _ (by rfl) (by rfl) (by intro u hu; simp at hu; first | (subst hu; rfl) | (rcases hu with rfl | rfl <;> rfl)) (by intro j u hu; rcases j with _ | _ | _ | j <;> simp at hu <;> subst hu <;> simp [go_sem]) (mem_bel hM.out ?_) (by omega) (by omega) ?_; (focus (repeat (first | with_reducible exact Bel.refl _ | with_reducible assumption | apply Bel.ext | apply Bel.alloc | apply Bel.drew | exact Bel.refl _))); intro v2 g2 hM2))
      all_goals clear p1 p2
      all_goals go_wp2
      all_goals go_roundw
      case rel =>
        refine ⟨k + 1, by omega, by go_num, Lib.hid ?_⟩
        rw [starsUp_snoc, HST.out, Cel.row_append, Cel.row_one]
        exact hM2
      case measure => simp [intOf]; omega
    · have hkn : k = n0 := by omega
      subst hkn
      obtain ⟨bs, cs, rfl⟩ := mem_row_v hM.out 0 rfl (by omega)
      have hlz : ¬ (k : Int) < (k : Int) := by omega
      have hM3 := mem_lit hM.out 2 1 [] 0 rfl (by unfold maxLen; omega)
      simp only [List.cons_append, List.nil_append] at hM3
      have hMM := Lib.hid hM3
      clear hM hM3
      go_wp2
      go_loopw [8, 9, 10, 11] (fun o i _ _ wr => ∃ j : Nat, j ≤ n ∧ i = .int .i64 j ∧ Hid (Mem A wr [⟨.slice (some ⟨bs, 0, none⟩) k cs, 2, 1, k, celI.row (starsUp ws k)⟩, ⟨o, 2, 1, j, celI.row (obsUp ws j)⟩])) (fun _ i _ _ _ => n - (intOf i).toNat)
      case atStart => exact ⟨0, Nat.zero_le _, rfl, hMM⟩
      case round =>
        obtain ⟨j, hj, rfl, hM⟩ := hrel
        clear hMM
        by_cases hlt : j < n
        · obtain ⟨ai, ni, ci, row, hx, hc0, hsi⟩ := hs.row hlt
          obtain ⟨g2, hg2⟩ := ext_ex hM.out.bel
          subst hg2
          have hbX : Bel A (ext A g2) := by (repeat (first | with_reducible exact Bel.refl _ | with_reducible assumption | apply Bel.ext | apply Bel.alloc | apply Bel.drew | exact Bel.refl _ | refine Bel.set ?_ (by first | (simp; done) | (simp [go_sem]; done) | omega) _))
          generalize ext A g2 = X at *
          have hwX : Bel w X := Below.trans hwA (Below.mono hbX hwA.size)
          have hcX : X.cell? ⟨b, off + j, none⟩ = some (.slice ai ni ci) := by rw [Below.cell hwX (p := ⟨b, off + j, none⟩) hb]; exact hc0
          have hbXl := Nat.lt_of_lt_of_le hb hwX.size
          have hsiX := hsi.bel hwX
          have hci := hsi.le; have hcm := hsi.cap
          unfold maxLen at hcm
          obtain ⟨e1, e2⟩ := HF.out row (List.mem_of_getElem? hx.out)
          have hni : ni = k := by rw [hsi.len, e1, HW.out]
          subst hni
          have hrd : Rd celI X (.slice (some ⟨bs, 0, none⟩) ni cs) (starsUp ws ni) := by
            have := hM.out.own 0 _ rfl
            refine rd_of_row (C := celI) (B := A.heap.size) (e := 2) ?_
            rw [starsUp_len]; exact this
          obtain ⟨aS, nS, cS, hvS, hsS⟩ := hrd.sl
          simp only [Value.slice.injEq] at hvS
          obtain ⟨rfl, rfl, rfl⟩ := hvS
          have hS2 := hsS.le; have hS3 := hsS.cap
          unfold maxLen at hS3
          have E2 := Lib.hid e2
          have SB := Lib.hid (HSB.out ni)
          have HOB := Lib.hid (obsTo_bd e2 (HSB.out ni))
          have HRW := Lib.hid (getD_of (d := []) hx.out)
          clear e2 e1 hsi hc0 hrd
          have hMx := hM.out
          have HMx := Lib.hid hMx
          clear hM hMx
          generalize hst : starsUp ws ni = stars at *
          have HSTA := Lib.hid hst
          clear hst
          go_wp2
          go_loopw [10, 11] (fun pr i wr => ∃ m : Nat, m ≤ ni ∧ i = .int .i64 m ∧ pr = .int .i64 (obsTo row stars m) ∧ Bel X wr) (fun _ i _ => ni - (intOf i).toNat)
          case atStart => exact ⟨0, Nat.zero_le _, rfl, rfl, Bel.refl _⟩
          case round =>
            obtain ⟨m, hm, rfl, rfl, hbel⟩ := hrel
            obtain ⟨g3, hg3⟩ := ext_ex hbel
            subst hg3
            by_cases hlt2 : m < ni
            · obtain ⟨bi, oi, rfl, hbi⟩ := hsiX.base hlt2
              obtain ⟨y, hy, hcy⟩ := hsiX.at1 hlt2
              obtain ⟨_, _, hab, hbsl⟩ := hsS.base hlt2
              cases hab
              obtain ⟨s, hs9, hcs⟩ := hsS.at1 hlt2
              rw [Nat.zero_add] at hcs
              obtain ⟨q1, q2⟩ := E2.out y (List.mem_of_getElem? hy.out)
              obtain ⟨q3, q4⟩ := SB.out s (List.mem_of_getElem? hs9.out)
              obtain ⟨q5, q6⟩ := HOB.out m
              have HO := Lib.hid (show obsTo row stars (m + 1) = maxI (obsTo row stars m) (y - s) by rw [obsTo, getD_of hy.out, getD_of hs9.out])
              obtain ⟨bt, hbt⟩ : ∃ bt, bt = obsTo row stars m := ⟨_, rfl⟩
              have HBT := Lib.hid hbt
              rw [← hbt] at q5 q6 ⊢
              clear hbt
              have w4 : IntKind.i64.wrap (y - s) = y - s := IntWalk.i64_in _ (by omega)
              have v1 : (m : Int) < (ni : Int) := Int.ofNat_lt.2 hlt2
              have v2 : (0 : Int) ≤ (m : Int) := by omega
              have v3 : (0 : Int) ≤ (j : Int) := by omega
              have v4 : (j : Int) < (n : Int) := by omega
              go_wp2_with fail
              refine region_ext (by kernel_rfl) (by kernel_rfl) ?_
              repeat (go_big_quiet_step (first | (go_at_call 54; exact Calls.in_same (l00Max_c _ _ _))))
              refine wpQuiet_nil ?_
              rintro _ ⟨_, rfl⟩
              go_wp2
              go_roundw
              case rel =>
                refine ⟨m + 1, by omega, by go_num, ?_, by (repeat (first | with_reducible exact Bel.refl _ | with_reducible assumption | apply Bel.ext | apply Bel.alloc | apply Bel.drew | exact Bel.refl _ | refine Bel.set ?_ (by first | (simp; done) | (simp [go_sem]; done) | omega) _))⟩
                rw [HO.out, ← HBT.out]
              case measure => simp [intOf]; omega
            · have hmn : obsTo row stars m = obsTo row stars ni := by rw [show m = ni from by omega]
              rw [hmn]
              clear hmn
              obtain ⟨bt, hbt⟩ : ∃ bt, bt = obsTo row stars ni := ⟨_, rfl⟩
              have HBT := Lib.hid hbt
              rw [← hbt]
              clear hbt
              have hl3 : ¬ (m : Int) < (ni : Int) := by omega
              have hMx := HMx.out
              go_wp2_with (first | (at_builtin; refine wpList_append_mem rfl (.tmp 70) (.tmp 72) 27 2 1 8 rfl appIntT (by decide) A _ 1 _ _ _ rfl 1 [.int .i64 bt] rfl (by first | with_reducible rfl | (simp [go_sem]; done)) rfl (by intro u hu; simp at hu; first | (subst hu; rfl) | (rcases hu with rfl | rfl <;> rfl) | (rcases hu with rfl | rfl | rfl <;> rfl)) (mem_bel hMx ?_) (by omega) (by omega) ?_; (focus (repeat (first | with_reducible exact Bel.refl _ | with_reducible assumption | apply Bel.ext | apply Bel.alloc | apply Bel.drew | exact Bel.refl _))); intro v2 g2 hM3; (try simp only [List.set_cons_zero, List.set_cons_succ] at hM3)))
              go_roundw
              case rel =>
                refine ⟨j + 1, by omega, by go_num, Lib.hid ?_⟩
                rw [obsUp_snoc, HRW.out, HW.out, HSTA.out, ← HBT.out, Cel.row_append, Cel.row_one]
                exact hM3
              case measure => simp [intOf]; omega
        · have hjn : j = n := by omega
          obtain ⟨bo, co, rfl⟩ := mem_row_v hM.out 1 rfl (by omega)
          have hMw := mem_app (mem_bel (mem_nil w) hwA) hM.out
          obtain ⟨g2, hg2⟩ := ext_ex hMw.bel
          subst hg2
          have hMf := mem_front (L := [_]) hMw
          have HMf := Lib.hid hMf
          have HJ := Lib.hid hjn
          clear hM hMw hMf hjn
          have hlz2 : ¬ (j : Int) < (n : Int) := by omega
          go_wp2
          refine bodyPost_ret (v := .tuple #[.slice (some ⟨bo, 0, none⟩) j co, .slice (some ⟨bs, 0, none⟩) k cs, .int .i64 0]) (by simp [results, Try.results29, go_sem]) rfl ?_
          rw [← HR.out]
          refine ⟨_, _, g2, rfl, rfl, ?_⟩
          have e : j = ws.length := by rw [HJ.out, HL.out]
          rw [obsUp_len, starsUp_len, ← e]
          exact HMf.out
end Go.Proofs.Ythahkoclkjfkdaa
