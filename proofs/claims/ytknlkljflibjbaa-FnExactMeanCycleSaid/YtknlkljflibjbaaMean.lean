/- The mean time between extrema of a kind: what both sides return. -/
import Derived.Test.YtknlkljflibjbaaRise
import Derived.Test.YtknlkljflibjbaaPredExtremum
namespace Go.Proofs.Ytknlkljflibjbaa
open Go.RowKit

def kindP (kd : Int) (x : Int × Int) : Bool := x.1 == kd
def meanI (xs : List (Int × Int)) (s kd : Int) : Int × Int × Int :=
  if (extI xs s).2 ≠ 0 then (0, 0, (extI xs s).2) else if !inB kd 1 2 then (0, 0, 2)
  else if ((extI xs s).1.filter (kindP kd)).length < 2 then (0, 0, 3)
  else (fracN (timeAt xs (((extI xs s).1.filter (kindP kd)).getD (((extI xs s).1.filter (kindP kd)).length - 1) (0, 0)).2.toNat - timeAt xs (((extI xs s).1.filter (kindP kd)).getD 0 (0, 0)).2.toNat) ((((extI xs s).1.filter (kindP kd)).length : Int) - 1),
    fracD (timeAt xs (((extI xs s).1.filter (kindP kd)).getD (((extI xs s).1.filter (kindP kd)).length - 1) (0, 0)).2.toNat - timeAt xs (((extI xs s).1.filter (kindP kd)).getD 0 (0, 0)).2.toNat) ((((extI xs s).1.filter (kindP kd)).length : Int) - 1), 0)
theorem mean_ks {xs es : List (Int × Int)} (hmem : ∀ x ∈ es, (x.1 = 1 ∨ x.1 = 2) ∧ 0 ≤ x.2 ∧ x.2 < xs.length) (kd : Int) :
    ∀ x ∈ es.filter (kindP kd), ∃ j : Nat, x.2 = j ∧ j < xs.length := fun x hx => by
  have := hmem x (List.mem_filter.1 hx).1
  exact ⟨x.2.toNat, by omega, by omega⟩
theorem getD_at {α : Type} {xs : List α} {k : Nat} {x d : α} (h : xs[k]? = some x) : xs.getD k d = x := by simp [List.getD, h]
set_option maxHeartbeats 400000 in
theorem countE_c (a : Option Addr) (n c : Nat) (h : (n : Int) ≤ 9223372036854775807) (w : World) : Calls Try.prog 84 #[.slice a n c] w (Same (.int .i64 n) w) := by
  refine hide_same fun v H => ?_
  have wn : IntKind.i64.wrap (n : Int) = (n : Int) := IntWalk.i64_in _ (by omega)
  go_enter Try.func84, Try.ntmps84
  go_wp2
  go_ret
  exact Same.mk (by rw [← H.out]; rfl)
theorem mean_pred (kd x y : Int) (B : Nat) (w : World) (hB : B < w.heap.size) (h0 : w.cell? ⟨B, 0, none⟩ = some (.int .i64 kd)) :
    Calls Try.prog 83 (#[.agg #[.int .i64 x, .int .i64 y]] ++ #[.pointer (some ⟨B, 0, none⟩)]) w (Ret (.bool (kindP kd (x, y))) w) := by
  refine hide_ret fun v H => ?_
  show Calls Try.prog 83 #[.agg #[.int .i64 x, .int .i64 y], .pointer (some ⟨B, 0, none⟩)] w _
  go_enter Try.func83, Try.ntmps83
  go_wp2
  all_goals go_ret
  all_goals refine Ret.mk ?_ (?_ : Bel _ _)
  all_goals first | (repeat (first | with_reducible exact Bel.refl _ | apply Bel.ext | apply Bel.alloc | apply Bel.drew | exact Bel.refl _ | refine Bel.set ?_ (by first | (simp; done) | (simp [go_sem]; done) | omega) _)); done | exact H.out
set_option maxRecDepth 100000 in
set_option maxHeartbeats 8000000 in
theorem MeanCycle_c (u : Value) (xs : List (Int × Int)) (s kd : Int) (w : World) (hu : Rd cel2 w u xs) :
    Calls Try.prog 39 #[u, .int .i64 s, .int .i64 kd] w (Ret (.tuple #[.agg #[.int .i64 (meanI xs s kd).1, .int .i64 (meanI xs s kd).2.1], .int .i64 (meanI xs s kd).2.2]) w) := by
  refine hide_ret fun v H => ?_
  have HC := Lib.hid (fun w hu => ExtremaOf_c u xs s w hu)
  have HT := Lib.hid (fun w => in_c kd 1 2 w)
  have hfine := extI_fine xs s
  unfold meanI at H
  generalize extI xs s = q at *
  obtain ⟨es, code⟩ := q
  dsimp only at HC H hfine
  by_cases h1 : code = 0
  case neg =>
    simp only [ne_eq, h1, not_false_eq_true, if_true] at H
    have h1' : (code == 0) = false := by simp [h1]
    have h1'' : (code != 0) = true := by simp [h1]
    clear h1
    go_enter Try.func39, Try.ntmps39
    go_wp2_with (first | (go_at_call 15; refine Calls.mono (HC.out _ (hu.bel ?_)) ?_; (focus (repeat (first | with_reducible exact Bel.refl _ | apply Bel.ext | apply Bel.alloc | apply Bel.drew | exact Bel.refl _ | refine Bel.set ?_ (by first | (simp; done) | (simp [go_sem]; done) | omega) _))); rintro ee ww ⟨v0, g0, rfl, rfl, hown⟩))
    refine bodyPost_ret (v := .tuple #[.agg #[.int .i64 0, .int .i64 0], .int .i64 code]) (by simp (maxDischargeDepth := 8) [results, Try.results39, go_sem]) rfl (Ret.mk ?_ (?_ : Bel _ _))
    · exact H.out
    · (repeat (first | with_reducible exact Bel.refl _ | apply Bel.ext | apply Bel.alloc | apply Bel.drew | exact Bel.refl _ | refine Bel.set ?_ (by first | (simp; done) | (simp [go_sem]; done) | omega) _))
  subst h1
  obtain ⟨hc, hmem, hrise, hlenE⟩ := hfine rfl
  simp only [ne_eq, not_true_eq_false, if_false] at H
  rcases h2 : inB kd 1 2 with _ | _ <;> simp only [h2, Bool.not_true, Bool.not_false, if_true, if_false, Bool.false_eq_true] at H HT
  · clear h2
    go_enter Try.func39, Try.ntmps39
    go_wp2_with (first | (go_at_call 15; refine Calls.mono (HC.out _ (hu.bel ?_)) ?_; (focus (repeat (first | with_reducible exact Bel.refl _ | apply Bel.ext | apply Bel.alloc | apply Bel.drew | exact Bel.refl _ | refine Bel.set ?_ (by first | (simp; done) | (simp [go_sem]; done) | omega) _))); rintro ee ww ⟨v0, g0, rfl, rfl, hown⟩) | (go_at_call 56; refine Calls.mono (HT.out _) ?_; rintro ee ww ⟨rfl, rfl⟩))
    refine bodyPost_ret (v := .tuple #[.agg #[.int .i64 0, .int .i64 0], .int .i64 2]) (by simp (maxDischargeDepth := 8) [results, Try.results39, go_sem]) rfl (Ret.mk ?_ (?_ : Bel _ _))
    · exact H.out
    · (repeat (first | with_reducible exact Bel.refl _ | apply Bel.ext | apply Bel.alloc | apply Bel.drew | exact Bel.refl _ | refine Bel.set ?_ (by first | (simp; done) | (simp [go_sem]; done) | omega) _))
  clear h2
  have eg : ∀ args w, (callFunc 83 args).run Try.prog w = .ok (.enter 83 args) w := enters_of Try.func83 (by kernel_rfl) rfl
  have hcon : ∀ u x, Bel (w.alloc (.cells #[.int .i64 kd] 2)) x → Rd cel2 x u es → Calls Try.prog 82 #[u, .func (.func 83) #[] #[.pointer (some ⟨w.heap.size, 0, none⟩)]] x (RetRow 88 2 (fun v => v) (es.filter (kindP kd)).length (cel2.row (es.filter (kindP kd))) x) := fun u x hx hr =>
    chosenExtremum_c (kindP kd) 83 #[.pointer (some ⟨w.heap.size, 0, none⟩)] eg u es x hr (by omega)
      (fun a b W hm hW => mean_pred kd a b w.heap.size W (by have := hW.size; have := hx.size; simp at *; omega)
        (by rw [Below.cell hW (p := ⟨w.heap.size, 0, none⟩) (by have := hx.size; simp at *; omega), Below.cell hx (p := ⟨w.heap.size, 0, none⟩) (by simp)]; simp [go_sem]))
  have HQ := Lib.hid hcon
  have hks := mean_ks hmem kd
  have hlen := List.length_filter_le (kindP kd) es
  have hlenX := curve_len hc
  clear hcon eg
  generalize hke : es.filter (kindP kd) = ks at *
  clear hke
  go_enter Try.func39, Try.ntmps39
  go_wp2_with (first | (go_at_call 15; refine Calls.mono (HC.out _ (hu.bel ?_)) ?_; (focus (repeat (first | with_reducible exact Bel.refl _ | apply Bel.ext | apply Bel.alloc | apply Bel.drew | exact Bel.refl _ | refine Bel.set ?_ (by first | (simp; done) | (simp [go_sem]; done) | omega) _))); rintro ee ww ⟨v0, g0, rfl, rfl, hown⟩; have hrd0 := rd_of_row hown) | (go_at_call 56; refine Calls.mono (HT.out _) ?_; rintro ee ww ⟨rfl, rfl⟩) | (go_at_call 82; (with_reducible (refine Calls.mono (HQ.out _ _ ?_ ?_) ?_)); (focus (repeat (first | with_reducible exact Bel.refl _ | apply Bel.ext | apply Bel.alloc | apply Bel.drew | exact Bel.refl _ | refine Bel.set ?_ (by first | (simp; done) | (simp [go_sem]; done) | omega) _))); (focus (refine Rd.bel hrd0 ?_; (repeat (first | with_reducible exact Bel.refl _ | apply Bel.ext | apply Bel.alloc | apply Bel.drew | exact Bel.refl _ | refine Bel.set ?_ (by first | (simp; done) | (simp [go_sem]; done) | omega) _)))); rintro ee ww ⟨v1, g1, rfl, rfl, hown1⟩; have hwA : Bel w (ext (ext ((w.alloc (.cells #[.int .i64 kd] 2)).alloc (.cells #[.int .i64 0, .int .i64 0] 57)) g0) g1) := (by (repeat (first | with_reducible exact Bel.refl _ | apply Bel.ext | apply Bel.alloc | apply Bel.drew | exact Bel.refl _ | refine Bel.set ?_ (by first | (simp; done) | (simp [go_sem]; done) | omega) _))); have hrd := rd_of_row hown1; have X0 : (ext (ext ((w.alloc (.cells #[.int .i64 kd] 2)).alloc (.cells #[.int .i64 0, .int .i64 0] 57)) g0) g1).cell? ⟨w.heap.size + 1, 0, none⟩ = some (.int .i64 0) := (by simp [go_sem]); have X1 : (ext (ext ((w.alloc (.cells #[.int .i64 kd] 2)).alloc (.cells #[.int .i64 0, .int .i64 0] 57)) g0) g1).cell? ⟨w.heap.size + 1, 1, none⟩ = some (.int .i64 0) := (by simp [go_sem]); have X2 : (ext (ext ((w.alloc (.cells #[.int .i64 kd] 2)).alloc (.cells #[.int .i64 0, .int .i64 0] 57)) g0) g1).frozen? ⟨w.heap.size + 1, 0, none⟩ = false := (by simp [go_sem]); have X3 : (ext (ext ((w.alloc (.cells #[.int .i64 kd] 2)).alloc (.cells #[.int .i64 0, .int .i64 0] 57)) g0) g1).frozen? ⟨w.heap.size + 1, 1, none⟩ = false := (by simp [go_sem]); have X4 : w.heap.size + 1 < (ext (ext ((w.alloc (.cells #[.int .i64 kd] 2)).alloc (.cells #[.int .i64 0, .int .i64 0] 57)) g0) g1).heap.size := (Nat.lt_of_lt_of_le (Nat.lt_of_lt_of_le (by simp) (ext_size _ _)) (ext_size _ _)); clear hown hown1 hrd0; generalize ext (ext ((w.alloc (.cells #[.int .i64 kd] 2)).alloc (.cells #[.int .i64 0, .int .i64 0] 57)) g0) g1 = A at *; obtain ⟨a1, m, c1, rfl, hsE⟩ := hrd.sl; have hcapE := hsE.le; have hmaxE := hsE.cap; unfold maxLen at hmaxE; have HLE := Lib.hid hsE.len; clear hrd))
  · obtain ⟨a, n, c2, rfl, hs⟩ := (hu.bel hwA).sl
    have hcap := hs.le; have hmax := hs.cap
    unfold maxLen at hmax
    have HL := Lib.hid hs.len
    rw [← HLE.out] at H hlen
    have h3 : m < 2 := by omega
    simp only [h3, if_true] at H
    refine bodyPost_ret (v := .tuple #[.agg #[.int .i64 0, .int .i64 0], .int .i64 3]) (by simp (maxDischargeDepth := 8) [results, Try.results39, go_sem, X0, X1, X4]) rfl (Ret.mk ?_ (?_ : Bel _ _))
    · exact H.out
    · exact Bel.set (Bel.set hwA (by simp) _) (by simp) _
  · obtain ⟨a, n, c2, rfl, hs⟩ := (hu.bel hwA).sl
    have hcap := hs.le; have hmax := hs.cap
    unfold maxLen at hmax
    have HL := Lib.hid hs.len
    rw [← HLE.out] at H hlen
    have h3 : ¬ m < 2 := by omega
    simp only [h3, if_false] at H
    obtain ⟨be, offe, rfl, hbe⟩ := hsE.base (k := 0) (by omega)
    obtain ⟨p1, i1, he1, ha0, ha1⟩ := hsE.at2 (k := 0) (by omega)
    obtain ⟨p2, i2, he2, hb0, hb1⟩ := hsE.at2 (k := m - 1) (by omega)
    obtain ⟨j1, r1, r2⟩ := hks _ (List.mem_of_getElem? he1.out)
    obtain ⟨j2, r3, r4⟩ := hks _ (List.mem_of_getElem? he2.out)
    simp only at r1 r3
    subst r1 r3
    have hj1 : j1 < n := by rw [HL.out]; omega
    have hj2 : j2 < n := by rw [HL.out]; omega
    obtain ⟨b, off, rfl, hb⟩ := hs.base hj1
    obtain ⟨t1, y1, hx1, hd0, hd1⟩ := hs.at2 hj1
    obtain ⟨t2, y2, hx2, hf0, hf1⟩ := hs.at2 hj2
    have q1 := curve_get hc hx1.out
    have q2 := curve_get hc hx2.out
    simp only at q1 q2
    obtain ⟨q1, q3, _, _⟩ := q1
    obtain ⟨q2, q4, _, _⟩ := q2
    rw [getD_at he1.out, getD_at he2.out] at H
    simp only [Int.toNat_natCast] at H
    rw [timeAt_of hx1.out, timeAt_of hx2.out] at H
    have v1 : IntKind.i64.wrap (t2 - t1) = t2 - t1 := IntWalk.i64_in _ (by omega)
    have z1 : (0 : Int) ≤ (m : Int) - 1 := by omega
    have z2 : (m : Int) - 1 < m := by omega
    have z4 : (0 : Int) ≤ (j1 : Int) := by omega
    have z5 : (j1 : Int) < n := by omega
    have z6 : (0 : Int) ≤ (j2 : Int) := by omega
    have z7 : (j2 : Int) < n := by omega
    have k1 : IntKind.i64.wrap ((m : Int) - 1) = (m : Int) - 1 := IntWalk.i64_in _ (by omega)
    have k2 : ((m : Int) - 1).toNat = m - 1 := by omega
    have z0 : 0 < m := by omega
    have z0a : (1 : Int) ≤ (m : Int) := by omega
    have z0b : (0 : Int) < (m : Int) := by omega
    go_region_held3 (fun q => q.cell? ⟨be, offe + (m - 1) * 2 + 1, none⟩ = some (.int .i64 j2) ∧ q.cell? ⟨be, offe + 0 * 2 + 1, none⟩ = some (.int .i64 j1) ∧ q.cell? ⟨b, off + j1 * 2, none⟩ = some (.int .i64 t1) ∧ q.cell? ⟨b, off + j2 * 2, none⟩ = some (.int .i64 t2)) (simp [go_sem, *]) (fail)
    go_wp2_with (first | (go_at_call 70; refine (lowest_c _ _ (by omega) (by omega) (by omega) (by omega) _).mono ?_; rintro ee ww ⟨rfl, _, rfl⟩) | (go_at_call 84; refine (countE_c _ _ _ (by omega) _).mono ?_; rintro ee ww ⟨rfl, rfl⟩))
    all_goals refine bodyPost_ret (v := .tuple #[.agg #[.int .i64 (fracN (t2 - t1) ((m : Int) - 1)), .int .i64 (fracD (t2 - t1) ((m : Int) - 1))], .int .i64 0]) (by simp (maxDischargeDepth := 8) [results, Try.results39, go_sem, X0, X1, X4]) rfl (Ret.mk ?_ (?_ : Bel _ _))
    all_goals first | exact H.out | exact Bel.set (Bel.set (Below.trans hwA (Below.mono (by (repeat (first | with_reducible exact Bel.refl _ | apply Bel.ext | apply Bel.alloc | apply Bel.drew | exact Bel.refl _ | refine Bel.set ?_ (by first | (simp; done) | (simp [go_sem]; done) | omega) _)) : Bel A _) hwA.size)) (by simp) _) (by simp) _
end Go.Proofs.Ytknlkljflibjbaa
