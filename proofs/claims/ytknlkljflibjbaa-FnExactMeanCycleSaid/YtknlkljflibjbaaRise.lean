/- Times from minima to the maxima behind them: what both sides return. -/
import Derived.Test.YtknlkljflibjbaaExtrema2
import Derived.Test.YtknlkljflibjbaaRowInt
namespace Go.Proofs.Ytknlkljflibjbaa
open Go.RowKit

def timeAt (xs : List (Int × Int)) (k : Nat) : Int := (xs.getD k (0, 0)).1
theorem timeAt_of {xs : List (Int × Int)} {k : Nat} {x y : Int} (h : xs[k]? = some (x, y)) : timeAt xs k = x := by simp [timeAt, List.getD, h]
def riseUp (xs es : List (Int × Int)) : Nat → List Int
  | 0 => []
  | c + 1 => riseUp xs es c ++ if (es.getD c (0, 0)).1 = 2 ∧ (es.getD (c + 1) (0, 0)).1 = 1 then [timeAt xs (es.getD (c + 1) (0, 0)).2.toNat - timeAt xs (es.getD c (0, 0)).2.toNat] else []
theorem riseUp_len (xs es : List (Int × Int)) : ∀ c, (riseUp xs es c).length ≤ c
  | 0 => by simp [riseUp]
  | c + 1 => by
    have := riseUp_len xs es c
    rw [riseUp, List.length_append]; split <;> simp <;> omega
theorem riseUp_step {xs es : List (Int × Int)} {c j1 j2 : Nat} {p1 p2 t1 t2 y1 y2 : Int} (h1 : xs[j1]? = some (t1, y1)) (h2 : xs[j2]? = some (t2, y2)) (e1 : es[c]? = some (p1, (j1 : Int))) (e2 : es[c + 1]? = some (p2, (j2 : Int))) :
    riseUp xs es (c + 1) = riseUp xs es c ++ if p1 = 2 ∧ p2 = 1 then [t2 - t1] else [] := by
  rw [riseUp]
  have f1 : es.getD c (0, 0) = (p1, (j1 : Int)) := by simp [List.getD, e1]
  have f2 : es.getD (c + 1) (0, 0) = (p2, (j2 : Int)) := by simp [List.getD, e2]
  rw [f1, f2]
  simp only [Int.toNat_natCast]
  rw [timeAt_of h1, timeAt_of h2]
def riseI (xs : List (Int × Int)) (s : Int) : List Int × Int :=
  if (extI xs s).2 ≠ 0 then ([], (extI xs s).2) else (riseUp xs (extI xs s).1 ((extI xs s).1.length - 1), 0)
theorem extI_fine (xs : List (Int × Int)) (s : Int) (h : (extI xs s).2 = 0) :
    curveB xs = true ∧ (∀ x ∈ (extI xs s).1, (x.1 = 1 ∨ x.1 = 2) ∧ 0 ≤ x.2 ∧ x.2 < xs.length) ∧
    (∀ (i j : Nat) (x y : Int × Int), i < j → (extI xs s).1[i]? = some x → (extI xs s).1[j]? = some y → x.2 < y.2) ∧ (extI xs s).1.length ≤ 100 := by
  unfold extI at *
  split at h
  · simp at h
  split at h
  · simp at h
  rename_i h1 h2
  rw [if_neg h1, if_neg h2]
  simp only [Bool.not_eq_true, Bool.not_eq_false'] at h1
  refine ⟨h1, fun x hx => extL_mem hx, fun i j x y hij hx hy => extL_rises hij hx hy, ?_⟩
  have := extL_len xs s.toNat xs.length
  have := curve_len h1
  dsimp only
  omega
theorem riseI_len (xs : List (Int × Int)) (s : Int) : (riseI xs s).1.length ≤ 100 := by
  unfold riseI; split
  · simp
  · rename_i h
    have h0 : (extI xs s).2 = 0 := Classical.byContradiction h
    have := (extI_fine xs s h0).2.2.2
    have := riseUp_len xs (extI xs s).1 ((extI xs s).1.length - 1)
    dsimp only
    omega
theorem appInt2 : AppF Try.prog 39 2 1 8 := appF_of (z := .int .i64 0) Try.underlying39 (by kernel_rfl) rfl
set_option maxHeartbeats 8000000 in
theorem RiseTimes_c (u : Value) (xs : List (Int × Int)) (s : Int) (w : World) (hu : Rd cel2 w u xs) :
    Calls Try.prog 26 #[u, .int .i64 s] w (RetRow 2 1 (fun v => .tuple #[v, .int .i64 (riseI xs s).2]) (riseI xs s).1.length (celI.row (riseI xs s).1) w) := by
  generalize hR : RetRow _ _ _ _ _ w = R
  have HR := Lib.hid hR
  clear hR
  have HC := Lib.hid (fun w hu => ExtremaOf_c u xs s w hu)
  have hfine := extI_fine xs s
  unfold riseI at HR
  generalize extI xs s = q at *
  obtain ⟨es, code⟩ := q
  dsimp only at HC HR hfine
  by_cases h1 : code = 0
  case neg =>
    simp only [ne_eq, h1, not_false_eq_true, if_true] at HR
    have h1' : (code == 0) = false := by simp [h1]
    have h1'' : (code != 0) = true := by simp [h1]
    clear h1
    go_enter Try.func26, Try.ntmps26
    go_wp2_with (first | (go_at_call 15; refine Calls.mono (HC.out _ (hu.bel ?_)) ?_; (focus (repeat (first | exact Bel.refl _ | apply Bel.ext | apply Bel.alloc | apply Bel.drew | refine Bel.set ?_ (by first | (simp; done) | (simp [go_sem]; done) | omega) _))); rintro ee ww ⟨v0, g0, rfl, rfl, hown⟩))
    rw [← HR.out]
    exact RetRow.mk' rfl (by (repeat (first | exact Bel.refl _ | apply Bel.ext | apply Bel.alloc | apply Bel.drew | refine Bel.set ?_ (by first | (simp; done) | (simp [go_sem]; done) | omega) _)) : Bel _ _) (World.ownsRow_nil _ _ _ _)
  subst h1
  obtain ⟨hc, hmem, hrise, hlenE⟩ := hfine rfl
  simp only [ne_eq, not_true_eq_false, if_false] at HR
  go_enter Try.func26, Try.ntmps26
  go_wp2_with (first | (go_at_call 15; refine Calls.mono (HC.out _ (hu.bel ?_)) ?_; (focus (repeat (first | exact Bel.refl _ | apply Bel.ext | apply Bel.alloc | apply Bel.drew | refine Bel.set ?_ (by first | (simp; done) | (simp [go_sem]; done) | omega) _))); rintro ee ww ⟨v0, g0, rfl, rfl, hown⟩))
  have hrd := rd_of_row hown
  have hwA : Bel w (ext w g0) := by (repeat (first | exact Bel.refl _ | apply Bel.ext | apply Bel.alloc | apply Bel.drew | refine Bel.set ?_ (by first | (simp; done) | (simp [go_sem]; done) | omega) _))
  generalize ext w g0 = A at *
  have hlenX := curve_len hc
  obtain ⟨a1, m, c1, heq, hsE⟩ := hrd.sl
  obtain ⟨a, n, c2, rfl, hs⟩ := (hu.bel hwA).sl
  have hcap := hs.le; have hmax := hs.cap; have hcapE := hsE.le; have hmaxE := hsE.cap
  unfold maxLen at hmax hmaxE
  have HL := Lib.hid hs.len
  have HLE := Lib.hid hsE.len
  rw [← HL.out] at hlenX
  have hm100 : m ≤ 100 := by rw [HLE.out]; omega
  subst heq
  go_wp2
  go_loopw [8, 9] (fun o i wr => ∃ c : Nat, c ≤ m ∧ (c = 0 ∨ c + 1 ≤ m) ∧ i = .int .i64 ((c : Int) + 1) ∧ Bel A wr ∧ Hid (wr.ownsRow A.heap.size 2 1 o (riseUp xs es c).length (celI.row (riseUp xs es c)))) (fun _ i _ => m + 1 - (intOf i).toNat)
  case atStart => exact ⟨0, Nat.zero_le _, .inl rfl, by go_num, by (repeat (first | exact Bel.refl _ | apply Bel.ext | apply Bel.alloc | apply Bel.drew | refine Bel.set ?_ (by first | (simp; done) | (simp [go_sem]; done) | omega) _)), Lib.hid (by refine own_empty _ _ _ _ ?_; exact bel_size (by (repeat (first | exact Bel.refl _ | apply Bel.ext | apply Bel.alloc | apply Bel.drew | refine Bel.set ?_ (by first | (simp; done) | (simp [go_sem]; done) | omega) _))))⟩
  case round =>
    obtain ⟨c, hc1, hc2, rfl, hbel, hown⟩ := hrel
    obtain ⟨g, rfl⟩ := ext_ex hbel
    by_cases hlt : c + 1 < m
    · have hltz : (c : Int) + 1 < m := by omega
      obtain ⟨be, offe, rfl, hbe⟩ := hsE.base hlt
      obtain ⟨p1, i1, he1, ha0, ha1⟩ := hsE.at2 (k := c) (by omega)
      obtain ⟨p2, i2, he2, hb0, hb1⟩ := hsE.at2 hlt
      obtain ⟨_, r1, r2⟩ := hmem _ (List.mem_of_getElem? he1.out)
      obtain ⟨_, r3, r4⟩ := hmem _ (List.mem_of_getElem? he2.out)
      simp only at r1 r2 r3 r4
      obtain ⟨j1, rfl⟩ : ∃ j : Nat, i1 = j := ⟨i1.toNat, by omega⟩
      obtain ⟨j2, rfl⟩ : ∃ j : Nat, i2 = j := ⟨i2.toNat, by omega⟩
      have hj1 : j1 < n := by rw [HL.out]; omega
      have hj2 : j2 < n := by rw [HL.out]; omega
      obtain ⟨b, off, rfl, hb⟩ := hs.base hj1
      obtain ⟨t1, y1, hx1, hd0, hd1⟩ := hs.at2 hj1
      obtain ⟨t2, y2, hx2, hf0, hf1⟩ := hs.at2 hj2
      have q1 := curve_get hc hx1.out
      have q2 := curve_get hc hx2.out
      simp only at q1 q2
      obtain ⟨q1, q3, _, _⟩ := q1
      obtain ⟨q2, q4, _, _⟩ := q2
      have hup := riseUp_step hx1.out hx2.out he1.out he2.out
      have hul := riseUp_len xs es c
      have v1 : IntKind.i64.wrap (t2 - t1) = t2 - t1 := IntWalk.i64_in _ (by omega)
      have z1 : (0 : Int) ≤ (c : Int) := by omega
      have z2 : (c : Int) < m := by omega
      have z3 : (0 : Int) ≤ (c : Int) + 1 := by omega
      have z4 : (0 : Int) ≤ (j1 : Int) := by omega
      have z5 : (j1 : Int) < n := by omega
      have z6 : (0 : Int) ≤ (j2 : Int) := by omega
      have z7 : (j2 : Int) < n := by omega
      have k1 : IntKind.i64.wrap ((c : Int) + 1 - 1) = (c : Int) := by rw [show (c : Int) + 1 - 1 = c from by omega]; exact IntWalk.i64_in _ (by omega)
      have k1' : IntKind.i64.wrap (c : Int) = (c : Int) := IntWalk.i64_in _ (by omega)
      have k2 : ((c : Int) + 1).toNat = c + 1 := by omega
      by_cases h2 : p1 = 2 ∧ p2 = 1
      · rw [if_pos h2] at hup
        obtain ⟨rfl, rfl⟩ := h2
        have HU := Lib.hid hup
        clear hup
        generalize riseUp xs es c = ys at *
        go_wp2_with fail
        go_region_held3 (fun q => q.cell? ⟨be, offe + c * 2 + 1, none⟩ = some (.int .i64 j1) ∧ q.cell? ⟨be, offe + (c + 1) * 2 + 1, none⟩ = some (.int .i64 j2) ∧ q.cell? ⟨b, off + j1 * 2, none⟩ = some (.int .i64 t1) ∧ q.cell? ⟨b, off + j2 * 2, none⟩ = some (.int .i64 t2)) (simp [go_sem, *]) (first | (refine step_append_new (by rfl) (.tmp 41) (.tmp 62) 39 2 1 8 (by rfl) appInt2 (by decide) A _ _ _ 1 [.int .i64 (t2 - t1)] (by rfl) _ (by rfl) (by rfl) (by intro u hu; simp at hu; first | (subst hu; rfl) | (rcases hu with rfl | rfl <;> rfl) | (rcases hu with rfl | rfl | rfl <;> rfl)) (by intro j u hu; rcases j with _ | _ | _ | j <;> simp at hu <;> subst hu <;> simp [go_sem]) (own_bel hown.out ?_) ?_ (by omega) (by omega) ?_; (focus (repeat (first | exact Bel.refl _ | apply Bel.ext | apply Bel.alloc | apply Bel.drew))); (focus (repeat (first | exact Bel.refl _ | apply Bel.ext | apply Bel.alloc | apply Bel.drew))); intro v2 g2 hown2 hgr2))
        all_goals clear k1 k1'
        all_goals go_wp2
        all_goals go_roundw
        case rel =>
          refine ⟨c + 1, by omega, .inr (by omega), by go_num, by (repeat (first | exact Bel.refl _ | apply Bel.ext | apply Bel.alloc | apply Bel.drew | refine Bel.set ?_ (by first | (simp; done) | (simp [go_sem]; done) | omega) _)), Lib.hid ?_⟩
          rw [HU.out, Cel.row_append, Cel.row_one, List.length_append]; exact hown2
        case measure => simp [intOf]; omega
      · rw [if_neg h2, List.append_nil] at hup
        have HU := Lib.hid hup
        have h3 : (p1 == 2) = false ∨ (p1 == 2) = true ∧ (p2 == 1) = false := by
          rcases Classical.em (p1 = 2) with h | h
          · exact .inr ⟨by simp [h], by simp; exact fun e => h2 ⟨h, e⟩⟩
          · exact .inl (by simp [h])
        clear hup h2
        generalize riseUp xs es c = ys at *
        rcases h3 with h3 | ⟨h3, h4⟩
        all_goals
          go_wp2
          go_roundw
          case rel =>
            refine ⟨c + 1, by omega, .inr (by omega), by go_num, by (repeat (first | exact Bel.refl _ | apply Bel.ext | apply Bel.alloc | apply Bel.drew | refine Bel.set ?_ (by first | (simp; done) | (simp [go_sem]; done) | omega) _)), Lib.hid ?_⟩
            rw [HU.out]; exact own_bel hown.out (by (repeat (first | exact Bel.refl _ | apply Bel.ext | apply Bel.alloc | apply Bel.drew | refine Bel.set ?_ (by first | (simp; done) | (simp [go_sem]; done) | omega) _)))
          case measure => simp [intOf]; omega
    · have hltz : ¬ (c : Int) + 1 < m := by omega
      have hce : c = es.length - 1 := by rw [← HLE.out]; omega
      rw [← hce] at HR
      go_wp2
      rw [← HR.out]
      refine RetRow.mk' rfl ?_ (own_mono hown.out hwA.size)
      exact Below.trans hwA (Below.mono (by (repeat (first | exact Bel.refl _ | apply Bel.ext | apply Bel.alloc | apply Bel.drew | refine Bel.set ?_ (by first | (simp; done) | (simp [go_sem]; done) | omega) _)) : Bel A _) hwA.size)
set_option maxHeartbeats 8000000 in
theorem sRiseTimes_c (u : Value) (xs : List (Int × Int)) (s : Int) (w : World) (hu : Rd cel2 w u xs) :
    Calls Try.prog 25 #[u, .int .i64 s] w (RetRow 2 1 (fun v => .tuple #[v, .int .i64 (riseI xs s).2]) (riseI xs s).1.length (celI.row (riseI xs s).1) w) := by
  generalize hR : RetRow _ _ _ _ _ w = R
  have HR := Lib.hid hR
  clear hR
  have HS := Lib.hid (fun w hu => l12Side_c u xs s w hu)
  have hfine := extI_fine xs s
  unfold riseI extI at HR
  unfold sideI at HS
  rcases h1 : curveB xs with _ | _ <;> rcases h2 : inB s 1 10 with _ | _ <;> simp only [h1, h2, Bool.not_true, Bool.not_false, if_true, if_false, Bool.false_eq_true] at HR HS
  case true.true =>
   obtain ⟨s1, s2⟩ := inB_iff.1 h2
   obtain ⟨k, rfl⟩ : ∃ k : Nat, s = k := ⟨s.toNat, by omega⟩
   have HC := Lib.hid (fun w hu => l12All_c u xs k h1 (by omega) (by omega) w hu)
   have hext : extI xs (k : Int) = (extL xs k xs.length, 0) := by unfold extI; rw [h1, h2, Int.toNat_natCast]; simp
   rw [hext] at hfine
   rw [Int.toNat_natCast] at HR
   clear h1 h2 hext
   generalize extL xs k xs.length = es at *
   obtain ⟨hc, hmem, hrise, hlenE⟩ := hfine rfl
   simp only [ne_eq, not_true_eq_false, if_false] at HR
   go_enter Try.func25, Try.ntmps25
   go_wp2_with (first | (go_at_call 53; refine Calls.mono (HS.out _ (hu.bel ?_)) ?_; (focus (repeat (first | exact Bel.refl _ | apply Bel.ext | apply Bel.alloc | apply Bel.drew | refine Bel.set ?_ (by first | (simp; done) | (simp [go_sem]; done) | omega) _))); rintro ee ww ⟨rfl, g9, rfl⟩) | (go_at_call 54; refine Calls.mono (HC.out _ (hu.bel ?_)) ?_; (focus (repeat (first | exact Bel.refl _ | apply Bel.ext | apply Bel.alloc | apply Bel.drew | refine Bel.set ?_ (by first | (simp; done) | (simp [go_sem]; done) | omega) _))); rintro ee ww ⟨v0, g0, rfl, rfl, hown⟩))
   have hrd := rd_of_row hown
   have hwA : Bel w (ext (ext w g9) g0) := by (repeat (first | exact Bel.refl _ | apply Bel.ext | apply Bel.alloc | apply Bel.drew | refine Bel.set ?_ (by first | (simp; done) | (simp [go_sem]; done) | omega) _))
   generalize ext (ext w g9) g0 = A at *
   have hlenX := curve_len hc
   obtain ⟨a1, m, c1, heq, hsE⟩ := hrd.sl
   obtain ⟨a, n, c2, rfl, hs⟩ := (hu.bel hwA).sl
   have hcap := hs.le; have hmax := hs.cap; have hcapE := hsE.le; have hmaxE := hsE.cap
   unfold maxLen at hmax hmaxE
   have HL := Lib.hid hs.len
   have HLE := Lib.hid hsE.len
   rw [← HL.out] at hlenX
   have hm100 : m ≤ 100 := by rw [HLE.out]; omega
   subst heq
   go_wp2
   go_loopw [8, 9] (fun o i wr => ∃ c : Nat, c ≤ m ∧ (c = 0 ∨ c + 1 ≤ m) ∧ i = .int .i64 ((c : Int)) ∧ Bel A wr ∧ Hid (wr.ownsRow A.heap.size 2 1 o (riseUp xs es c).length (celI.row (riseUp xs es c)))) (fun _ i _ => m + 1 - (intOf i).toNat)
   case atStart => exact ⟨0, Nat.zero_le _, .inl rfl, rfl, by (repeat (first | exact Bel.refl _ | apply Bel.ext | apply Bel.alloc | apply Bel.drew | refine Bel.set ?_ (by first | (simp; done) | (simp [go_sem]; done) | omega) _)), Lib.hid (by refine own_empty _ _ _ _ ?_; exact bel_size (by (repeat (first | exact Bel.refl _ | apply Bel.ext | apply Bel.alloc | apply Bel.drew | refine Bel.set ?_ (by first | (simp; done) | (simp [go_sem]; done) | omega) _))))⟩
   case round =>
     obtain ⟨c, hc1, hc2, rfl, hbel, hown⟩ := hrel
     obtain ⟨g, rfl⟩ := ext_ex hbel
     by_cases hlt : c + 1 < m
     · have hltz : (c : Int) + 1 < m := by omega
       obtain ⟨be, offe, rfl, hbe⟩ := hsE.base hlt
       obtain ⟨p1, i1, he1, ha0, ha1⟩ := hsE.at2 (k := c) (by omega)
       obtain ⟨p2, i2, he2, hb0, hb1⟩ := hsE.at2 hlt
       obtain ⟨_, r1, r2⟩ := hmem _ (List.mem_of_getElem? he1.out)
       obtain ⟨_, r3, r4⟩ := hmem _ (List.mem_of_getElem? he2.out)
       simp only at r1 r2 r3 r4
       obtain ⟨j1, rfl⟩ : ∃ j : Nat, i1 = j := ⟨i1.toNat, by omega⟩
       obtain ⟨j2, rfl⟩ : ∃ j : Nat, i2 = j := ⟨i2.toNat, by omega⟩
       have hj1 : j1 < n := by rw [HL.out]; omega
       have hj2 : j2 < n := by rw [HL.out]; omega
       obtain ⟨b, off, rfl, hb⟩ := hs.base hj1
       obtain ⟨t1, y1, hx1, hd0, hd1⟩ := hs.at2 hj1
       obtain ⟨t2, y2, hx2, hf0, hf1⟩ := hs.at2 hj2
       have q1 := curve_get hc hx1.out
       have q2 := curve_get hc hx2.out
       simp only at q1 q2
       obtain ⟨q1, q3, _, _⟩ := q1
       obtain ⟨q2, q4, _, _⟩ := q2
       have hup := riseUp_step hx1.out hx2.out he1.out he2.out
       have hul := riseUp_len xs es c
       have v1 : IntKind.i64.wrap (t2 - t1) = t2 - t1 := IntWalk.i64_in _ (by omega)
       have z1 : (0 : Int) ≤ (c : Int) := by omega
       have z2 : (c : Int) < m := by omega
       have z3 : (0 : Int) ≤ (c : Int) + 1 := by omega
       have z4 : (0 : Int) ≤ (j1 : Int) := by omega
       have z5 : (j1 : Int) < n := by omega
       have z6 : (0 : Int) ≤ (j2 : Int) := by omega
       have z7 : (j2 : Int) < n := by omega
       have z1 : (0 : Int) ≤ (c : Int) := by omega
       have z2 : (c : Int) < m := by omega
       have z3 : (0 : Int) ≤ (c : Int) + 1 := by omega
       have z4 : (0 : Int) ≤ (j1 : Int) := by omega
       have z5 : (j1 : Int) < n := by omega
       have z6 : (0 : Int) ≤ (j2 : Int) := by omega
       have z7 : (j2 : Int) < n := by omega
       have k1 : IntKind.i64.wrap ((c : Int) + 1) = (c : Int) + 1 := IntWalk.i64_in _ (by omega)
       have k2 : ((c : Int) + 1).toNat = c + 1 := by omega
       by_cases h2 : p1 = 2 ∧ p2 = 1
       · rw [if_pos h2] at hup
         obtain ⟨rfl, rfl⟩ := h2
         have HU := Lib.hid hup
         clear hup
         generalize riseUp xs es c = ys at *
         go_wp2_with fail
         go_region_held3 (fun q => q.cell? ⟨be, offe + c * 2 + 1, none⟩ = some (.int .i64 j1) ∧ q.cell? ⟨be, offe + (c + 1) * 2 + 1, none⟩ = some (.int .i64 j2) ∧ q.cell? ⟨b, off + j1 * 2, none⟩ = some (.int .i64 t1) ∧ q.cell? ⟨b, off + j2 * 2, none⟩ = some (.int .i64 t2)) (simp [go_sem, *]) (first | (refine step_append_new (by rfl) (.tmp 42) (.tmp 63) 39 2 1 8 (by rfl) appInt2 (by decide) A _ _ _ 1 [.int .i64 (t2 - t1)] (by rfl) _ (by rfl) (by rfl) (by intro u hu; simp at hu; first | (subst hu; rfl) | (rcases hu with rfl | rfl <;> rfl) | (rcases hu with rfl | rfl | rfl <;> rfl)) (by intro j u hu; rcases j with _ | _ | _ | j <;> simp at hu <;> subst hu <;> simp [go_sem]) (own_bel hown.out ?_) ?_ (by omega) (by omega) ?_; (focus (repeat (first | exact Bel.refl _ | apply Bel.ext | apply Bel.alloc | apply Bel.drew))); (focus (repeat (first | exact Bel.refl _ | apply Bel.ext | apply Bel.alloc | apply Bel.drew))); intro v2 g2 hown2 hgr2))
         all_goals clear k1
         all_goals go_wp2
         all_goals go_roundw
         case rel =>
           refine ⟨c + 1, by omega, .inr (by omega), by go_num, by (repeat (first | exact Bel.refl _ | apply Bel.ext | apply Bel.alloc | apply Bel.drew | refine Bel.set ?_ (by first | (simp; done) | (simp [go_sem]; done) | omega) _)), Lib.hid ?_⟩
           rw [HU.out, Cel.row_append, Cel.row_one, List.length_append]; exact hown2
         case measure => simp [intOf]; omega
       · rw [if_neg h2, List.append_nil] at hup
         have HU := Lib.hid hup
         have h3 : (p1 == 2) = false ∨ (p1 == 2) = true ∧ (p2 == 1) = false := by
           rcases Classical.em (p1 = 2) with h | h
           · exact .inr ⟨by simp [h], by simp; exact fun e => h2 ⟨h, e⟩⟩
           · exact .inl (by simp [h])
         clear hup h2
         generalize riseUp xs es c = ys at *
         rcases h3 with h3 | ⟨h3, h4⟩
         all_goals
           go_wp2
           go_roundw
           case rel =>
             refine ⟨c + 1, by omega, .inr (by omega), by go_num, by (repeat (first | exact Bel.refl _ | apply Bel.ext | apply Bel.alloc | apply Bel.drew | refine Bel.set ?_ (by first | (simp; done) | (simp [go_sem]; done) | omega) _)), Lib.hid ?_⟩
             rw [HU.out]; exact own_bel hown.out (by (repeat (first | exact Bel.refl _ | apply Bel.ext | apply Bel.alloc | apply Bel.drew | refine Bel.set ?_ (by first | (simp; done) | (simp [go_sem]; done) | omega) _)))
           case measure => simp [intOf]; omega
     · have hltz : ¬ (c : Int) + 1 < m := by omega
       have hce : c = es.length - 1 := by rw [← HLE.out]; omega
       rw [← hce] at HR
       go_wp2
       rw [← HR.out]
       refine RetRow.mk' rfl ?_ (own_mono hown.out hwA.size)
       exact Below.trans hwA (Below.mono (by (repeat (first | exact Bel.refl _ | apply Bel.ext | apply Bel.alloc | apply Bel.drew | refine Bel.set ?_ (by first | (simp; done) | (simp [go_sem]; done) | omega) _)) : Bel A _) hwA.size)
  all_goals
    clear h1 h2 hfine
    simp only [ne_eq, Int.reduceEq, not_false_eq_true, if_true] at HR
    go_enter Try.func25, Try.ntmps25
    go_wp2_with (first | (go_at_call 53; refine Calls.mono (HS.out _ (hu.bel ?_)) ?_; (focus (repeat (first | exact Bel.refl _ | apply Bel.ext | apply Bel.alloc | apply Bel.drew))); rintro ee ww ⟨rfl, _, rfl⟩))
    rw [← HR.out]
    exact RetRow.mk' rfl (by (repeat (first | exact Bel.refl _ | apply Bel.ext | apply Bel.alloc | apply Bel.drew | refine Bel.set ?_ (by first | (simp; done) | (simp [go_sem]; done) | omega) _)) : Bel _ _) (World.ownsRow_nil _ _ _ _)
end Go.Proofs.Ytknlkljflibjbaa
