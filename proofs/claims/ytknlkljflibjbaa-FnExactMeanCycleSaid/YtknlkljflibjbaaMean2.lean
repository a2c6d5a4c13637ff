/- The mean time between extrema of a kind: the reference. -/
import Derived.Test.YtknlkljflibjbaaMean
namespace Go.Proofs.Ytknlkljflibjbaa
open Go.RowKit

def cycL (xs es : List (Int × Int)) (kd : Int) (c : Nat) : List Int := ((es.take c).filter (kindP kd)).map fun x => timeAt xs x.2.toNat
theorem cycL_len (xs es : List (Int × Int)) (kd : Int) (c : Nat) : (cycL xs es kd c).length ≤ c := by unfold cycL; rw [List.length_map]; exact filter_take_len _ _ _
theorem cycL_pos {xs es : List (Int × Int)} {kd : Int} {c j : Nat} {t y : Int} (h : es[c]? = some (kd, (j : Int))) (hx : xs[j]? = some (t, y)) : cycL xs es kd (c + 1) = cycL xs es kd c ++ [t] := by
  unfold cycL; rw [filter_take_pos h (by simp [kindP]), List.map_append]
  simp [timeAt_of hx]
theorem cycL_neg {xs es : List (Int × Int)} {kd p i : Int} {c : Nat} (h : es[c]? = some (p, i)) (hp : p ≠ kd) : cycL xs es kd (c + 1) = cycL xs es kd c := by
  unfold cycL; rw [filter_take_neg h (by simp [kindP, hp])]
theorem cycL_bd {xs es : List (Int × Int)} {kd : Int} {c : Nat} (hc : curveB xs = true) (hmem : ∀ x ∈ es, (x.1 = 1 ∨ x.1 = 2) ∧ 0 ≤ x.2 ∧ x.2 < xs.length) : ∀ t ∈ cycL xs es kd c, 0 ≤ t ∧ t ≤ 10000000 := by
  intro t ht
  unfold cycL at ht
  obtain ⟨x, hx, rfl⟩ := List.mem_map.1 ht
  have hx1 := (List.mem_filter.1 hx).1
  have h2 := hmem x (List.mem_of_mem_take hx1)
  obtain ⟨⟨t', y'⟩, e'⟩ : ∃ z, xs[x.2.toNat]? = some z := ⟨_, List.getElem?_eq_getElem (by omega)⟩
  rw [timeAt_of e']
  have := curve_get hc e'
  simp only at this; omega
def meanT (ts : List Int) : Int × Int × Int :=
  if ts.length < 2 then (0, 0, 3) else (fracN (ts.getD (ts.length - 1) 0 - ts.getD 0 0) ((ts.length : Int) - 1), fracD (ts.getD (ts.length - 1) 0 - ts.getD 0 0) ((ts.length : Int) - 1), 0)
theorem mean_times (xs ks : List (Int × Int)) : (if ks.length < 2 then ((0 : Int), (0 : Int), (3 : Int)) else (fracN (timeAt xs (ks.getD (ks.length - 1) (0, 0)).2.toNat - timeAt xs (ks.getD 0 (0, 0)).2.toNat) ((ks.length : Int) - 1),
    fracD (timeAt xs (ks.getD (ks.length - 1) (0, 0)).2.toNat - timeAt xs (ks.getD 0 (0, 0)).2.toNat) ((ks.length : Int) - 1), 0)) = meanT (ks.map fun x => timeAt xs x.2.toNat) := by
  unfold meanT
  rw [List.length_map]
  split
  · rfl
  · have e : ∀ k, k < ks.length → (ks.map fun x => timeAt xs x.2.toNat).getD k 0 = timeAt xs (ks.getD k (0, 0)).2.toNat := fun k hk => by simp [List.getD, hk]
    rw [e _ (by omega), e _ (by omega)]
set_option maxRecDepth 100000 in
set_option maxHeartbeats 8000000 in
theorem sMeanCycle_c (u : Value) (xs : List (Int × Int)) (s kd : Int) (w : World) (hu : Rd cel2 w u xs) :
    Calls Try.prog 38 #[u, .int .i64 s, .int .i64 kd] w (Ret (.tuple #[.agg #[.int .i64 (meanI xs s kd).1, .int .i64 (meanI xs s kd).2.1], .int .i64 (meanI xs s kd).2.2]) w) := by
  refine hide_ret fun v H => ?_
  have HS := Lib.hid (fun w hu => l12Side_c u xs s w hu)
  have HT := Lib.hid (fun w => l00In_c kd 1 2 w)
  have hfine := extI_fine xs s
  unfold meanI extI at H
  unfold sideI at HS
  rcases h1 : curveB xs with _ | _ <;> rcases h2 : inB s 1 10 with _ | _ <;> rcases h3 : inB kd 1 2 with _ | _ <;> simp only [h1, h2, h3, Bool.not_true, Bool.not_false, if_true, if_false, Bool.false_eq_true] at H HS HT
  case true.true.true =>
   obtain ⟨s1, s2⟩ := inB_iff.1 h2
   obtain ⟨k, rfl⟩ : ∃ k : Nat, s = k := ⟨s.toNat, by omega⟩
   have HC := Lib.hid (fun w hu => l12All_c u xs k h1 (by omega) (by omega) w hu)
   have hext : extI xs (k : Int) = (extL xs k xs.length, 0) := by unfold extI; rw [h1, h2, Int.toNat_natCast]; simp
   rw [hext] at hfine
   rw [Int.toNat_natCast] at H
   clear h1 h2 h3 hext
   generalize extL xs k xs.length = es at *
   obtain ⟨hc, hmem, hrise, hlenE⟩ := hfine rfl
   simp only [ne_eq, not_true_eq_false, if_false] at H
   rw [mean_times] at H
   go_enter Try.func38, Try.ntmps38
   go_wp2_with (first | (go_at_call 53; refine Calls.mono (HS.out _ (hu.bel ?_)) ?_; (focus (repeat (first | with_reducible exact Bel.refl _ | apply Bel.ext | apply Bel.alloc | apply Bel.drew | exact Bel.refl _ | refine Bel.set ?_ (by first | (simp; done) | (simp [go_sem]; done) | omega) _))); rintro ee ww ⟨rfl, g9, rfl⟩) | (go_at_call 62; refine Calls.mono (HT.out _) ?_; rintro ee ww ⟨rfl, rfl⟩) | (go_at_call 54; refine Calls.mono (HC.out _ (hu.bel ?_)) ?_; (focus (repeat (first | with_reducible exact Bel.refl _ | apply Bel.ext | apply Bel.alloc | apply Bel.drew | exact Bel.refl _ | refine Bel.set ?_ (by first | (simp; done) | (simp [go_sem]; done) | omega) _))); rintro ee ww ⟨v0, g0, rfl, rfl, hown⟩))
   have hrd := rd_of_row hown
   clear hown
   have hwA : Bel w (ext (ext (w.alloc (.cells #[.int .i64 0, .int .i64 0] 57)) g9) g0) := by (repeat (first | with_reducible exact Bel.refl _ | apply Bel.ext | apply Bel.alloc | apply Bel.drew | exact Bel.refl _ | refine Bel.set ?_ (by first | (simp; done) | (simp [go_sem]; done) | omega) _))
   have X0 : (ext (ext (w.alloc (.cells #[.int .i64 0, .int .i64 0] 57)) g9) g0).cell? ⟨w.heap.size, 0, none⟩ = some (.int .i64 0) := by simp [go_sem]
   have X1 : (ext (ext (w.alloc (.cells #[.int .i64 0, .int .i64 0] 57)) g9) g0).cell? ⟨w.heap.size, 1, none⟩ = some (.int .i64 0) := by simp [go_sem]
   have X2 : (ext (ext (w.alloc (.cells #[.int .i64 0, .int .i64 0] 57)) g9) g0).frozen? ⟨w.heap.size, 0, none⟩ = false := by simp [go_sem]
   have X3 : (ext (ext (w.alloc (.cells #[.int .i64 0, .int .i64 0] 57)) g9) g0).frozen? ⟨w.heap.size, 1, none⟩ = false := by simp [go_sem]
   have X4 : w.heap.size < (ext (ext (w.alloc (.cells #[.int .i64 0, .int .i64 0] 57)) g9) g0).heap.size := Nat.lt_of_lt_of_le (Nat.lt_of_lt_of_le (by simp) (ext_size _ _)) (ext_size _ _)
   generalize ext (ext (w.alloc (.cells #[.int .i64 0, .int .i64 0] 57)) g9) g0 = A at *
   have hlenX := curve_len hc
   obtain ⟨a1, m, c1, heq, hsE⟩ := hrd.sl
   obtain ⟨a, n, c2, rfl, hs⟩ := (hu.bel hwA).sl
   have hcap := hs.le; have hmax := hs.cap; have hcapE := hsE.le; have hmaxE := hsE.cap
   unfold maxLen at hmax hmaxE
   have HL := Lib.hid hs.len
   have HLE := Lib.hid hsE.len
   rw [← HL.out] at hlenX
   have hm100 : m ≤ 100 := by rw [HLE.out]; omega
   subst heq
   go_wp2
   go_loopw [10, 11] (fun o i wr => ∃ c : Nat, c ≤ m ∧ i = .int .i64 ((c : Int)) ∧ Bel A wr ∧ Hid (wr.ownsRow A.heap.size 2 1 o (cycL xs es kd c).length (celI.row (cycL xs es kd c)))) (fun _ i _ => m - (intOf i).toNat)
   case atStart => exact ⟨0, Nat.zero_le _, rfl, by (repeat (first | with_reducible exact Bel.refl _ | apply Bel.ext | apply Bel.alloc | apply Bel.drew | exact Bel.refl _ | refine Bel.set ?_ (by first | (simp; done) | (simp [go_sem]; done) | omega) _)), Lib.hid (by refine own_empty _ _ _ _ ?_; exact bel_size (by (repeat (first | with_reducible exact Bel.refl _ | apply Bel.ext | apply Bel.alloc | apply Bel.drew | exact Bel.refl _ | refine Bel.set ?_ (by first | (simp; done) | (simp [go_sem]; done) | omega) _))))⟩
   case round =>
     obtain ⟨c, hc1, rfl, hbel, hown⟩ := hrel
     obtain ⟨g, rfl⟩ := ext_ex hbel
     by_cases hlt : c < m
     · have hltz : (c : Int) < m := by omega
       obtain ⟨be, offe, rfl, hbe⟩ := hsE.base hlt
       obtain ⟨p1, i1, he1, ha0, ha1⟩ := hsE.at2 hlt
       obtain ⟨_, r1, r2⟩ := hmem _ (List.mem_of_getElem? he1.out)
       simp only at r1 r2
       obtain ⟨j1, rfl⟩ : ∃ j : Nat, i1 = j := ⟨i1.toNat, by omega⟩
       have hj1 : j1 < n := by rw [HL.out]; omega
       obtain ⟨b, off, rfl, hb⟩ := hs.base hj1
       obtain ⟨t1, y1, hx1, hd0, hd1⟩ := hs.at2 hj1
       have hul := cycL_len xs es kd c
       have z1 : (0 : Int) ≤ (c : Int) := by omega
       have z4 : (0 : Int) ≤ (j1 : Int) := by omega
       have z5 : (j1 : Int) < n := by omega
       by_cases h2 : p1 = kd
       · subst h2
         have HU := Lib.hid (cycL_pos he1.out hx1.out)
         have hq : (p1 == p1) = true := by simp
         generalize cycL xs es p1 c = ys at *
         go_wp2_with (first | (at_builtin; refine wpList_append_new rfl (.tmp 44) (.tmp 54) 39 2 1 8 rfl appInt2 (by decide) A _ _ _ 1 [.int .i64 t1] rfl (by first | with_reducible rfl | (simp [go_sem]; done)) rfl (by intro u hu; simp at hu; first | (subst hu; rfl) | (rcases hu with rfl | rfl <;> rfl) | (rcases hu with rfl | rfl | rfl <;> rfl)) (own_bel hown.out ?_) ?_ (by omega) (by omega) ?_; (focus (repeat (first | with_reducible exact Bel.refl _ | apply Bel.ext | apply Bel.alloc | apply Bel.drew | exact Bel.refl _))); (focus (repeat (first | with_reducible exact Bel.refl _ | apply Bel.ext | apply Bel.alloc | apply Bel.drew | exact Bel.refl _))); intro v2 g2 hown2 hgr2))
         all_goals go_wp2
         all_goals go_roundw
         case rel =>
           refine ⟨c + 1, by omega, by go_num, by (repeat (first | with_reducible exact Bel.refl _ | apply Bel.ext | apply Bel.alloc | apply Bel.drew | exact Bel.refl _ | refine Bel.set ?_ (by first | (simp; done) | (simp [go_sem]; done) | omega) _)), Lib.hid ?_⟩
           rw [HU.out, Cel.row_append, Cel.row_one, List.length_append]; exact hown2
         case measure => simp [intOf]; omega
       · have HU := Lib.hid (cycL_neg (xs := xs) he1.out h2)
         have hq : (p1 == kd) = false := by simp [h2]
         go_wp2
         all_goals go_roundw
         case rel =>
           refine ⟨c + 1, by omega, by go_num, by (repeat (first | with_reducible exact Bel.refl _ | apply Bel.ext | apply Bel.alloc | apply Bel.drew | exact Bel.refl _ | refine Bel.set ?_ (by first | (simp; done) | (simp [go_sem]; done) | omega) _)), Lib.hid ?_⟩
           rw [HU.out]; exact own_bel hown.out (by (repeat (first | with_reducible exact Bel.refl _ | apply Bel.ext | apply Bel.alloc | apply Bel.drew | exact Bel.refl _ | refine Bel.set ?_ (by first | (simp; done) | (simp [go_sem]; done) | omega) _)))
         case measure => simp [intOf]; omega
     · have hltz : ¬ (c : Int) < m := by omega
       have hcm : c = m := by omega
       subst hcm
       have hts : (es.filter (kindP kd)).map (fun x => timeAt xs x.2.toNat) = cycL xs es kd c := by unfold cycL; rw [List.take_of_length_le (by rw [← HLE.out]; exact Nat.le_refl _)]
       rw [hts] at H
       have hbd := cycL_bd (c := c) (kd := kd) hc hmem
       have hul := cycL_len xs es kd c
       generalize cycL xs es kd c = ts at *
       clear hts
       unfold meanT at H
       have hrdT := rd_of_row hown.out
       obtain ⟨at_, nt, ct, rfl, hsT⟩ := hrdT.sl
       have hcapT := hsT.le; have hmaxT := hsT.cap
       unfold maxLen at hmaxT
       have HLT := Lib.hid hsT.len
       rw [← HLT.out] at H hul
       by_cases h3 : nt < 2
       · have h3z : (nt : Int) < 2 := by omega
         simp only [h3, if_true] at H
         go_wp2
         refine bodyPost_ret (v := .tuple #[.agg #[.int .i64 0, .int .i64 0], .int .i64 3]) (by simp (maxDischargeDepth := 8) [results, Try.results38, go_sem, X0, X1, X4]) rfl (Ret.mk ?_ (?_ : Bel _ _))
         · exact H.out
         · exact Bel.set (Bel.set (Below.trans hwA (Below.mono (by (repeat (first | with_reducible exact Bel.refl _ | apply Bel.ext | apply Bel.alloc | apply Bel.drew | exact Bel.refl _ | refine Bel.set ?_ (by first | (simp; done) | (simp [go_sem]; done) | omega) _)) : Bel A _) hwA.size)) (by simp) _) (by simp) _
       · have h3z : ¬ (nt : Int) < 2 := by omega
         simp only [h3, if_false] at H
         obtain ⟨bt, offt, rfl, hbt⟩ := hsT.base (k := 0) (by omega)
         obtain ⟨t1, ht1, hg1⟩ := hsT.at1 (k := 0) (by omega)
         obtain ⟨t2, ht2, hg2⟩ := hsT.at1 (k := nt - 1) (by omega)
         have q1 := hbd _ (List.mem_of_getElem? ht1.out)
         have q2 := hbd _ (List.mem_of_getElem? ht2.out)
         rw [getD_at ht1.out, getD_at ht2.out] at H
         rw [Nat.add_zero] at hg1
         have hlo := (hown.out.lt bt rfl).1
         have hfar : ∀ (X : World) (u : Value) (j k : Nat), (X.setCell ⟨w.heap.size, j, none⟩ u).cell? ⟨bt, k, none⟩ = X.cell? ⟨bt, k, none⟩ := fun X u j k => World.cell?_setCell_far X _ _ u (by simp; omega)
         have z0 : 0 < nt := by omega
         have z0a : (1 : Int) ≤ (nt : Int) := by omega
         have z0b : (0 : Int) < (nt : Int) := by omega
         have z1 : (0 : Int) ≤ (nt : Int) - 1 := by omega
         have z2 : (nt : Int) - 1 < nt := by omega
         have k1 : IntKind.i64.wrap ((nt : Int) - 1) = (nt : Int) - 1 := IntWalk.i64_in _ (by omega)
         have k2 : ((nt : Int) - 1).toNat = nt - 1 := by omega
         have v1 : IntKind.i64.wrap (t2 - t1) = t2 - t1 := IntWalk.i64_in _ (by omega)
         go_wp2
         go_region_held3 (fun q => q.cell? ⟨bt, offt, none⟩ = some (.int .i64 t1) ∧ q.cell? ⟨bt, offt + (nt - 1), none⟩ = some (.int .i64 t2)) (simp [go_sem, *]) (first | (go_at_call 68; refine (l02Make_c _ _ (by omega) (by omega) (by omega) (by omega) _).mono ?_; rintro ee ww ⟨rfl, _, rfl⟩))
         all_goals go_wp2
         all_goals refine bodyPost_ret (v := .tuple #[.agg #[.int .i64 (fracN (t2 - t1) ((nt : Int) - 1)), .int .i64 (fracD (t2 - t1) ((nt : Int) - 1))], .int .i64 0]) (by simp (maxDischargeDepth := 8) [results, Try.results38, go_sem, X0, X1, X4]) rfl (Ret.mk ?_ (?_ : Bel _ _))
         all_goals first | exact H.out | exact Bel.set (Bel.set (Below.trans hwA (Below.mono (by (repeat (first | with_reducible exact Bel.refl _ | apply Bel.ext | apply Bel.alloc | apply Bel.drew | exact Bel.refl _ | refine Bel.set ?_ (by first | (simp; done) | (simp [go_sem]; done) | omega) _)) : Bel A _) hwA.size)) (by simp) _) (by simp) _
  all_goals
    clear h1 h2 h3 hfine
    go_enter Try.func38, Try.ntmps38
    go_wp2_with (first | (go_at_call 53; refine Calls.mono (HS.out _ (hu.bel ?_)) ?_; (focus (repeat (first | with_reducible exact Bel.refl _ | apply Bel.ext | apply Bel.alloc | apply Bel.drew | exact Bel.refl _))); rintro ee ww ⟨rfl, _, rfl⟩) | (go_at_call 62; refine Calls.mono (HT.out _) ?_; rintro ee ww ⟨rfl, rfl⟩))
    first
    | (refine bodyPost_ret (v := .tuple #[.agg #[.int .i64 0, .int .i64 0], .int .i64 1]) (by simp (maxDischargeDepth := 8) [results, Try.results38, go_sem]) rfl (Ret.mk ?_ (?_ : Bel _ _)); exact H.out; (focus (repeat (first | with_reducible exact Bel.refl _ | apply Bel.ext | apply Bel.alloc | apply Bel.drew | exact Bel.refl _ | refine Bel.set ?_ (by first | (simp; done) | (simp [go_sem]; done) | omega) _))); done)
    | (refine bodyPost_ret (v := .tuple #[.agg #[.int .i64 0, .int .i64 0], .int .i64 2]) (by simp (maxDischargeDepth := 8) [results, Try.results38, go_sem]) rfl (Ret.mk ?_ (?_ : Bel _ _)); exact H.out; (focus (repeat (first | with_reducible exact Bel.refl _ | apply Bel.ext | apply Bel.alloc | apply Bel.drew | exact Bel.refl _ | refine Bel.set ?_ (by first | (simp; done) | (simp [go_sem]; done) | omega) _))); done)
end Go.Proofs.Ytknlkljflibjbaa
