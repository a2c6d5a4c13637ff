/- Extrema that differ enough: the reference. -/
import Derived.Test.YtknlkljflibjbaaDeep2
namespace Go.Proofs.Ytknlkljflibjbaa
open Go.RowKit

def dpt (xs es : List (Int × Int)) (by_ : Int) (c : Nat) : Nat → Bool
  | 0 => true
  | 1 => nbK xs es by_ c ((c : Int) - 1)
  | _ => nbK xs es by_ c ((c : Int) - 1) && nbK xs es by_ c ((c : Int) + 1)
theorem dpt_step (xs es : List (Int × Int)) (by_ : Int) (c : Nat) {m : Nat} (h : m < 2) : dpt xs es by_ c (m + 1) = (dpt xs es by_ c m && nbK xs es by_ c ((c : Int) - 1 + 2 * (m : Int))) := by
  rcases m with _ | _ | m
  · simp [dpt]
  · simp only [dpt]; congr 2; omega
  · omega
set_option maxRecDepth 100000 in
set_option maxHeartbeats 8000000 in
theorem sDeepEnough_c (u : Value) (xs : List (Int × Int)) (u2 : Value) (es : List (Int × Int)) (by_ : Int) (w : World) (hu : Rd cel2 w u xs) (hu2 : Rd cel2 w u2 es) :
    Calls Try.prog 22 #[u, u2, .int .i64 by_] w (RetRow 88 2 (fun v => .tuple #[v, .int .i64 (deepI xs es by_).2]) (deepI xs es by_).1.length (cel2.row (deepI xs es by_).1) w) := by
  generalize hR : RetRow _ _ _ _ _ w = R
  have HR := Lib.hid hR
  clear hR
  have HV := Lib.hid (fun w hu => l08Ok_c u xs w hu)
  have HE := Lib.hid (fun w hu hu2 => l12List_c u xs u2 es w hu hu2)
  have HT := Lib.hid (fun w => l00In_c by_ 0 20000 w)
  unfold deepI at HR
  have hu' := hu; have hu2' := hu2
  obtain ⟨a, n, c, rfl, hs⟩ := hu.sl
  obtain ⟨a2, n2, c2, rfl, hs2⟩ := hu2.sl
  rcases h1 : curveB xs with _ | _ <;> rcases h2 : extOk xs.length none es with _ | _ <;> rcases h3 : inB by_ 0 20000 with _ | _ <;> simp only [h1, h2, h3, Bool.not_true, Bool.not_false, if_true, if_false, Bool.false_eq_true] at HR HV HE HT
  case true.true.true =>
    have hok := fun z (hz : z ∈ es) => (by obtain ⟨k, hk⟩ := List.mem_iff_getElem?.1 hz; exact extOk_get h2 hk : 1 ≤ z.1 ∧ z.1 ≤ 2 ∧ 0 ≤ z.2 ∧ z.2 < xs.length)
    have hcv := fun z (hz : z ∈ xs) => (by obtain ⟨k, hk⟩ := List.mem_iff_getElem?.1 hz; have := curve_get h1 hk; exact ⟨this.2.2.1, this.2.2.2⟩ : -2000 ≤ z.2 ∧ z.2 ≤ 20000)
    have hlenE := extOk_len h2 (-1) (fun q e => by cases e) (fun _ => rfl) (by omega) (by omega)
    have hlenX := curve_len h1
    have hcap := hs.le; have hmax := hs.cap
    have hcap2 := hs2.le; have hmax2 := hs2.cap
    unfold maxLen at hmax hmax2
    have HL := Lib.hid hs.len
    have HL2 := Lib.hid hs2.len
    have hn2 : n2 ≤ 100 := by rw [HL2.out]; omega
    have HOK := Lib.hid hok
    have HCV := Lib.hid hcv
    clear h1 h2 h3 hok hcv hlenE hlenX
    go_enter Try.func22, Try.ntmps22
    go_wp2_with (first | (go_at_call 60; refine Calls.mono (HV.out _ (hu'.bel ?_)) ?_; (focus (repeat (first | with_reducible exact Bel.refl _ | with_reducible assumption | apply Bel.ext | apply Bel.alloc | apply Bel.drew | exact Bel.refl _))); rintro ee ww ⟨rfl, g1, rfl⟩) | (go_at_call 61; refine Calls.mono (HE.out _ (hu'.bel ?_) (hu2'.bel ?_)) ?_; (focus (repeat (first | with_reducible exact Bel.refl _ | with_reducible assumption | apply Bel.ext | apply Bel.alloc | apply Bel.drew | exact Bel.refl _))); (focus (repeat (first | with_reducible exact Bel.refl _ | with_reducible assumption | apply Bel.ext | apply Bel.alloc | apply Bel.drew | exact Bel.refl _))); rintro ee ww ⟨rfl, g2, rfl⟩) | (go_at_call 62; refine Calls.mono (HT.out _) ?_; rintro ee ww ⟨rfl, rfl⟩))
    go_loopw [8, 9, 10, 11, 12] (fun o i _ _ _ wr => ∃ k : Nat, k ≤ n2 ∧ i = .int .i64 k ∧ Bel w wr ∧ Hid (wr.ownsRow w.heap.size 88 2 o (deepL xs es by_ k).length (cel2.row (deepL xs es by_ k)))) (fun _ i _ _ _ _ => n2 - (intOf i).toNat)
    case atStart => exact ⟨0, Nat.zero_le _, rfl, by (repeat (first | with_reducible exact Bel.refl _ | with_reducible assumption | apply Bel.ext | apply Bel.alloc | apply Bel.drew | exact Bel.refl _ | refine Bel.set ?_ (by first | (simp; done) | (simp [go_sem]; done) | omega) _)), Lib.hid (by refine own_empty _ _ _ _ ?_; exact bel_size (by (repeat (first | with_reducible exact Bel.refl _ | with_reducible assumption | apply Bel.ext | apply Bel.alloc | apply Bel.drew | exact Bel.refl _ | refine Bel.set ?_ (by first | (simp; done) | (simp [go_sem]; done) | omega) _))))⟩
    case round =>
      obtain ⟨k, hk, rfl, hbel, hown⟩ := hrel
      obtain ⟨g, rfl⟩ := ext_ex hbel
      by_cases hlt : k < n2
      · obtain ⟨b2, off2, rfl, hb2⟩ := hs2.base hlt
        obtain ⟨x, y, hx, d0, d1⟩ := hs2.at2 hlt
        have hstep := deepL_step (xs := xs) (by_ := by_) hx.out
        rw [deepOk_nbK (by have := (List.getElem?_eq_some_iff.1 hx.out).1; exact this)] at hstep
        have HS := Lib.hid hstep
        clear hstep
        have hdl := deepL_len xs es by_ k
        have w1 : IntKind.i64.wrap ((k : Int) - 1) = (k : Int) - 1 := IntWalk.i64_in _ (by omega)
        have w2 : IntKind.i64.wrap ((k : Int) + 1) = (k : Int) + 1 := IntWalk.i64_in _ (by omega)
        obtain ⟨q1, q2, q3, q4⟩ := HOK.out _ (List.mem_of_getElem? hx.out)
        simp only at q1 q2 q3 q4
        obtain ⟨j1, rfl⟩ : ∃ j : Nat, y = j := ⟨y.toNat, by omega⟩
        have hj1 : j1 < n := by rw [HL.out]; omega
        obtain ⟨b, off, rfl, hb⟩ := hs.base hj1
        obtain ⟨t1, m1, hm1, g0, g1⟩ := hs.at2 hj1
        obtain ⟨s1, s2⟩ := HCV.out _ (List.mem_of_getElem? hm1.out)
        simp only at s1 s2
        have z0 : (0 : Int) ≤ (k : Int) := by omega
        have z1 : (k : Int) < n2 := by omega
        have z4 : (0 : Int) ≤ (j1 : Int) := by omega
        have z5 : (j1 : Int) < n := by omega
        go_wp2
        go_loopw [10, 11, 12] (fun dp kv _ wr => ∃ m : Nat, m ≤ 2 ∧ kv = .int .i64 ((k : Int) - 1 + 2 * (m : Int)) ∧ dp = .bool (dpt xs es by_ k m) ∧ Bel (ext w g) wr) (fun _ kv _ _ => ((k : Int) + 3 - intOf kv).toNat)
        case atStart => exact ⟨0, by omega, by go_num, rfl, Bel.refl _⟩
        case round =>
          obtain ⟨m, hm, rfl, rfl, hbel2⟩ := hrel
          obtain ⟨g', rfl⟩ := ext_ex hbel2
          by_cases hlt2 : m < 2
          · have HD := Lib.hid (dpt_step xs es by_ k hlt2)
            obtain ⟨kk, hkk⟩ : ∃ kk : Int, kk = (k : Int) - 1 + 2 * (m : Int) := ⟨_, rfl⟩
            have hk1 : -1 ≤ kk := by omega
            have hk2 : kk ≤ (k : Int) + 1 := by omega
            rw [← hkk] at HD ⊢
            have hk3 : (k : Int) - 1 + 2 * ((m + 1 : Nat) : Int) = kk + 2 := by omega
            have HK3 := Lib.hid hk3
            have w3 : IntKind.i64.wrap (kk + 2) = kk + 2 := IntWalk.i64_in _ (by omega)
            clear hkk hk3
            unfold nbK at HD
            rw [← HL2.out] at HD
            generalize dpt xs es by_ k m = dm at *
            by_cases o1 : kk < 0
            · have hd := HD.out
              simp only [o1, decide_true, Bool.true_or, Bool.and_true] at hd
              have HD2 := Lib.hid hd
              clear hd HD
              go_wp2
              go_roundw
              case rel => exact ⟨m + 1, by omega, by rw [HK3.out], by rw [HD2.out], by (repeat (first | with_reducible exact Bel.refl _ | with_reducible assumption | apply Bel.ext | apply Bel.alloc | apply Bel.drew | exact Bel.refl _ | refine Bel.set ?_ (by first | (simp; done) | (simp [go_sem]; done) | omega) _))⟩
              case measure => simp [intOf]; omega
            by_cases o2 : (n2 : Int) ≤ kk
            · have hd := HD.out
              simp only [o2, decide_true, Bool.true_or, Bool.or_true, Bool.and_true] at hd
              have HD2 := Lib.hid hd
              clear hd HD
              go_wp2
              go_roundw
              case rel => exact ⟨m + 1, by omega, by rw [HK3.out], by rw [HD2.out], by (repeat (first | with_reducible exact Bel.refl _ | with_reducible assumption | apply Bel.ext | apply Bel.alloc | apply Bel.drew | exact Bel.refl _ | refine Bel.set ?_ (by first | (simp; done) | (simp [go_sem]; done) | omega) _))⟩
              case measure => simp [intOf]; omega
            obtain ⟨kj, rfl⟩ : ∃ j : Nat, kk = j := ⟨kk.toNat, by omega⟩
            have hkj : kj < n2 := by omega
            have hd := HD.out
            simp only [o1, o2, decide_false, Bool.false_or, Int.toNat_natCast] at hd
            obtain ⟨x', y', hx', f0, f1⟩ := hs2.at2 hkj
            obtain ⟨r1, r2, r3, r4⟩ := HOK.out _ (List.mem_of_getElem? hx'.out)
            simp only at r1 r2 r3 r4
            obtain ⟨j2, rfl⟩ : ∃ j : Nat, y' = j := ⟨y'.toNat, by omega⟩
            have hj2 : j2 < n := by rw [HL.out]; omega
            obtain ⟨t2, m2, hm2, g2, g3⟩ := hs.at2 hj2
            obtain ⟨s3, s4⟩ := HCV.out _ (List.mem_of_getElem? hm2.out)
            simp only at s3 s4
            unfold nbB at hd
            rw [show es.getD k (0, 0) = (x, (j1 : Int)) by simp [List.getD, hx.out], show es.getD kj (0, 0) = (x', (j2 : Int)) by simp [List.getD, hx'.out]] at hd
            simp only [Int.toNat_natCast] at hd
            rw [magAt_of hm1.out, magAt_of hm2.out] at hd
            clear HD o1 o2
            have y1 : (0 : Int) ≤ (kj : Int) := by omega
            have y2 : (kj : Int) < n2 := by omega
            have z6 : (0 : Int) ≤ (j2 : Int) := by omega
            have z7 : (j2 : Int) < n := by omega
            have w4 : IntKind.i64.wrap (m2 - m1) = m2 - m1 := IntWalk.i64_in _ (by omega)
            have w5 : IntKind.i64.wrap (-(m2 - m1)) = -(m2 - m1) := IntWalk.i64_in _ (by omega)
            by_cases h3 : x = 2
            · subst h3
              simp only [if_true] at hd
              have HD2 := Lib.hid hd
              clear hd
              go_wp2_with fail
              refine region_ext (by kernel_rfl) (by kernel_rfl) ?_
              repeat (go_big_quiet_step (fail))
              refine wpQuiet_nil ?_
              rintro _ ⟨_, rfl⟩
              cases dm
              all_goals
                go_wp2
                go_roundw
                case rel => exact ⟨m + 1, by omega, by rw [HK3.out], by rw [HD2.out]; simp, by (repeat (first | with_reducible exact Bel.refl _ | with_reducible assumption | apply Bel.ext | apply Bel.alloc | apply Bel.drew | exact Bel.refl _ | refine Bel.set ?_ (by first | (simp; done) | (simp [go_sem]; done) | omega) _))⟩
                case measure => simp [intOf]; omega
            · have h3z : (x == 2) = false := by simp [h3]
              simp only [h3, if_false] at hd
              clear h3
              have HD2 := Lib.hid hd
              clear hd
              go_wp2_with fail
              refine region_ext (by kernel_rfl) (by kernel_rfl) ?_
              repeat (go_big_quiet_step (fail))
              refine wpQuiet_nil ?_
              rintro _ ⟨_, rfl⟩
              cases dm
              all_goals
                go_wp2
                go_roundw
                case rel => exact ⟨m + 1, by omega, by rw [HK3.out], by rw [HD2.out]; simp, by (repeat (first | with_reducible exact Bel.refl _ | with_reducible assumption | apply Bel.ext | apply Bel.alloc | apply Bel.drew | exact Bel.refl _ | refine Bel.set ?_ (by first | (simp; done) | (simp [go_sem]; done) | omega) _))⟩
                case measure => simp [intOf]; omega
          · have hm2 : m = 2 := by omega
            subst hm2
            have hlz : ¬ (k : Int) - 1 + 2 * ((2 : Nat) : Int) ≤ (k : Int) + 1 := by omega
            have HDP := Lib.hid (show dpt xs es by_ k 2 = (nbK xs es by_ k ((k : Int) - 1) && nbK xs es by_ k ((k : Int) + 1)) from rfl)
            have HS2 := HS.out
            rw [← HDP.out] at HS2
            generalize dpt xs es by_ k 2 = dm at *
            clear HS
            cases dm
            · simp only [Bool.false_eq_true, if_false, List.append_nil] at HS2
              have HS := Lib.hid HS2
              clear HS2 HDP
              go_wp2
              go_roundw
              case rel =>
                refine ⟨k + 1, by omega, by go_num, by (repeat (first | with_reducible exact Bel.refl _ | with_reducible assumption | apply Bel.ext | apply Bel.alloc | apply Bel.drew | exact Bel.refl _ | refine Bel.set ?_ (by first | (simp; done) | (simp [go_sem]; done) | omega) _)), Lib.hid ?_⟩
                rw [HS.out]; exact own_bel hown.out (by (repeat (first | with_reducible exact Bel.refl _ | with_reducible assumption | apply Bel.ext | apply Bel.alloc | apply Bel.drew | exact Bel.refl _ | refine Bel.set ?_ (by first | (simp; done) | (simp [go_sem]; done) | omega) _)))
              case measure => simp [intOf]; omega
            · simp only [if_true] at HS2
              have HS := Lib.hid HS2
              clear HS2 HDP
              generalize deepL xs es by_ k = ys at *
              go_wp2_with (first | (at_builtin; refine wpList_append_new rfl (.tmp 82) (.tmp 87) 24 88 2 16 rfl appExtremum2 (by decide) w _ _ _ 1 [.int .i64 x, .int .i64 j1] rfl (by first | with_reducible rfl | (simp [go_sem]; done)) rfl (by intro u hu; simp at hu; first | (subst hu; rfl) | (rcases hu with rfl | rfl <;> rfl) | (rcases hu with rfl | rfl | rfl <;> rfl)) (own_bel hown.out ?_) ?_ (by omega) (by omega) ?_; (focus (repeat (first | with_reducible exact Bel.refl _ | with_reducible assumption | apply Bel.ext | apply Bel.alloc | apply Bel.drew | exact Bel.refl _))); (focus (repeat (first | with_reducible exact Bel.refl _ | with_reducible assumption | apply Bel.ext | apply Bel.alloc | apply Bel.drew | exact Bel.refl _))); intro v2 g2 hown2 hgr2))
              go_roundw
              case rel =>
                refine ⟨k + 1, by omega, by go_num, by (repeat (first | with_reducible exact Bel.refl _ | with_reducible assumption | apply Bel.ext | apply Bel.alloc | apply Bel.drew | exact Bel.refl _ | refine Bel.set ?_ (by first | (simp; done) | (simp [go_sem]; done) | omega) _)), Lib.hid ?_⟩
                rw [HS.out, Cel.row_append, Cel.row_one, List.length_append]; exact hown2
              case measure => simp [intOf]; omega
      · have hkn : k = n2 := by omega
        subst hkn
        rw [← HL2.out] at HR
        go_wp2
        rw [← HR.out]
        exact RetRow.mk' rfl (by (repeat (first | with_reducible exact Bel.refl _ | with_reducible assumption | apply Bel.ext | apply Bel.alloc | apply Bel.drew | exact Bel.refl _ | refine Bel.set ?_ (by first | (simp; done) | (simp [go_sem]; done) | omega) _)) : Bel _ _) hown.out
  all_goals
    clear h1 h2 h3
    go_enter Try.func22, Try.ntmps22
    go_wp2_with (first | (go_at_call 60; refine Calls.mono (HV.out _ (hu'.bel ?_)) ?_; (focus (repeat (first | with_reducible exact Bel.refl _ | with_reducible assumption | apply Bel.ext | apply Bel.alloc | apply Bel.drew | exact Bel.refl _))); rintro ee ww ⟨rfl, g1, rfl⟩) | (go_at_call 61; refine Calls.mono (HE.out _ (hu'.bel ?_) (hu2'.bel ?_)) ?_; (focus (repeat (first | with_reducible exact Bel.refl _ | with_reducible assumption | apply Bel.ext | apply Bel.alloc | apply Bel.drew | exact Bel.refl _))); (focus (repeat (first | with_reducible exact Bel.refl _ | with_reducible assumption | apply Bel.ext | apply Bel.alloc | apply Bel.drew | exact Bel.refl _))); rintro ee ww ⟨rfl, g2, rfl⟩) | (go_at_call 62; refine Calls.mono (HT.out _) ?_; rintro ee ww ⟨rfl, rfl⟩))
    rw [← HR.out]
    exact RetRow.mk' rfl (by (repeat (first | with_reducible exact Bel.refl _ | with_reducible assumption | apply Bel.ext | apply Bel.alloc | apply Bel.drew | exact Bel.refl _ | refine Bel.set ?_ (by first | (simp; done) | (simp [go_sem]; done) | omega) _)) : Bel _ _) (World.ownsRow_nil _ _ _ _)
end Go.Proofs.Ytknlkljflibjbaa
