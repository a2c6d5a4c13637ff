/- Extrema that differ enough: the program's closure and its loop. -/
import Derived.Test.YtknlkljflibjbaaDeep
import Derived.Test.YtknlkljflibjbaaMem
import Derived.Shelf.Abstract
import Derived.Maps.AppendAt
namespace Go.Proofs.Ytknlkljflibjbaa
open Go.RowKit

def nbK (xs es : List (Int × Int)) (by_ : Int) (c : Nat) (k : Int) : Bool := decide (k < 0) || (decide ((es.length : Int) ≤ k) || nbB xs es by_ c k.toNat)
theorem deepOk_nbK {xs es : List (Int × Int)} {by_ : Int} {c : Nat} (hc : c < es.length) : deepOk xs es by_ c = (nbK xs es by_ c ((c : Int) - 1) && nbK xs es by_ c ((c : Int) + 1)) := by
  unfold deepOk nbK
  have e2 : decide ((c : Int) + 1 < 0) = false := by simp; omega
  have e4 : ((c : Int) + 1).toNat = c + 1 := by omega
  have e5 : decide ((es.length : Int) ≤ (c : Int) + 1) = decide (es.length ≤ c + 1) := by rw [decide_eq_decide]; omega
  have e6 : decide ((es.length : Int) ≤ (c : Int) - 1) = false := by simp; omega
  have e1 : decide ((c : Int) - 1 < 0) = decide (c = 0) := by rw [decide_eq_decide]; omega
  have e3 : ((c : Int) - 1).toNat = c - 1 := by omega
  rw [e1, e2, e3, e4, e5, e6]
  simp
set_option maxHeartbeats 4000000 in
theorem deep_pred (a : Option Addr) (n c : Nat) (a2 : Option Addr) (n2 c2 : Nat) (xs es : List (Int × Int)) (by_ : Int) (d : Nat) (x y : Int) (B1 B2 B3 B4 : Nat) (k : Int) (w : World)
    (hs : Sl cel2 w a n c xs) (hs2 : Sl cel2 w a2 n2 c2 es) (hd : es[d]? = some (x, y)) (hok : ∀ z ∈ es, 1 ≤ z.1 ∧ z.1 ≤ 2 ∧ 0 ≤ z.2 ∧ z.2 < xs.length) (hcv : ∀ z ∈ xs, -2000 ≤ z.2 ∧ z.2 ≤ 20000)
    (l1 : B1 < w.heap.size) (l2 : B2 < w.heap.size) (l3 : B3 < w.heap.size) (l4 : B4 < w.heap.size)
    (e1 : w.cell? ⟨B1, 0, none⟩ = some (.slice a2 n2 c2)) (e2 : w.cell? ⟨B2, 0, none⟩ = some (.slice a n c)) (e3 : w.cell? ⟨B3, 0, none⟩ = some (.int .i64 x)) (e3' : w.cell? ⟨B3, 1, none⟩ = some (.int .i64 y)) (e4 : w.cell? ⟨B4, 0, none⟩ = some (.int .i64 by_)) :
    Calls Try.prog 65 (#[.int .i64 k] ++ #[.pointer (some ⟨B1, 0, none⟩), .pointer (some ⟨B2, 0, none⟩), .pointer (some ⟨B3, 0, none⟩), .pointer (some ⟨B4, 0, none⟩)]) w (Ret (.bool (nbK xs es by_ d k)) w) := by
  refine hide_ret fun v H => ?_
  have hcap := hs.le; have hmax := hs.cap
  have hcap2 := hs2.le; have hmax2 := hs2.cap
  unfold maxLen at hmax hmax2
  have HL := Lib.hid hs.len
  have HL2 := Lib.hid hs2.len
  show Calls Try.prog 65 #[.int .i64 k, .pointer (some ⟨B1, 0, none⟩), .pointer (some ⟨B2, 0, none⟩), .pointer (some ⟨B3, 0, none⟩), .pointer (some ⟨B4, 0, none⟩)] w _
  unfold nbK at H
  rw [← HL2.out] at H
  by_cases h1 : k < 0
  · simp only [h1, decide_true, Bool.true_or] at H
    go_enter Try.func65, Try.ntmps65
    go_wp2
    go_ret
    refine Ret.mk ?_ (?_ : Bel _ _)
    · exact H.out
    · (repeat (first | with_reducible exact Bel.refl _ | with_reducible assumption | apply Bel.ext | apply Bel.alloc | apply Bel.drew | exact Bel.refl _ | refine Bel.set ?_ (by first | (simp; done) | (simp [go_sem]; done) | omega) _))
  by_cases h2 : (n2 : Int) ≤ k
  · simp only [h2, decide_true, Bool.true_or, Bool.or_true] at H
    go_enter Try.func65, Try.ntmps65
    go_wp2
    go_ret
    refine Ret.mk ?_ (?_ : Bel _ _)
    · exact H.out
    · (repeat (first | with_reducible exact Bel.refl _ | with_reducible assumption | apply Bel.ext | apply Bel.alloc | apply Bel.drew | exact Bel.refl _ | refine Bel.set ?_ (by first | (simp; done) | (simp [go_sem]; done) | omega) _))
  obtain ⟨k, rfl⟩ : ∃ j : Nat, k = j := ⟨k.toNat, by omega⟩
  simp only [h1, h2, decide_false, Bool.false_or, Int.toNat_natCast] at H
  have hk : k < n2 := by omega
  obtain ⟨q1, q2, q3, q4⟩ := hok _ (List.mem_of_getElem? hd)
  obtain ⟨b2, off2, rfl, hb2⟩ := hs2.base hk
  obtain ⟨x', y', hx', f0, f1⟩ := hs2.at2 hk
  obtain ⟨r1, r2, r3, r4⟩ := hok _ (List.mem_of_getElem? hx'.out)
  simp only at q1 q2 q3 q4 r1 r2 r3 r4
  obtain ⟨j1, rfl⟩ : ∃ j : Nat, y = j := ⟨y.toNat, by omega⟩
  obtain ⟨j2, rfl⟩ : ∃ j : Nat, y' = j := ⟨y'.toNat, by omega⟩
  have hj1 : j1 < n := by rw [HL.out]; omega
  have hj2 : j2 < n := by rw [HL.out]; omega
  obtain ⟨b, off, rfl, hb⟩ := hs.base hj1
  obtain ⟨t1, m1, hm1, g0, g1⟩ := hs.at2 hj1
  obtain ⟨t2, m2, hm2, g2, g3⟩ := hs.at2 hj2
  obtain ⟨s1, s2⟩ := hcv _ (List.mem_of_getElem? hm1.out)
  obtain ⟨s3, s4⟩ := hcv _ (List.mem_of_getElem? hm2.out)
  simp only at s1 s2 s3 s4
  unfold nbB at H
  rw [show es.getD d (0, 0) = (x, (j1 : Int)) by simp [List.getD, hd], show es.getD k (0, 0) = (x', (j2 : Int)) by simp [List.getD, hx'.out]] at H
  simp only [Int.toNat_natCast] at H
  rw [magAt_of hm1.out, magAt_of hm2.out] at H
  have z4 : (0 : Int) ≤ (j1 : Int) := by omega
  have z5 : (j1 : Int) < n := by omega
  have z6 : (0 : Int) ≤ (j2 : Int) := by omega
  have z7 : (j2 : Int) < n := by omega
  have w1 : IntKind.i64.wrap (m2 - m1) = m2 - m1 := IntWalk.i64_in _ (by omega)
  have w2 : IntKind.i64.wrap (-(m2 - m1)) = -(m2 - m1) := IntWalk.i64_in _ (by omega)
  have y1 : (0 : Int) ≤ (k : Int) := by omega
  have y2 : (k : Int) < n2 := by omega
  by_cases h3 : x = 2
  · subst h3
    simp only [if_true] at H
    go_enter Try.func65, Try.ntmps65
    go_wp2
    go_region_held3 (fun q => q.cell? ⟨B1, 0, none⟩ = some (.slice (some ⟨b2, off2, none⟩) n2 c2) ∧ q.cell? ⟨B2, 0, none⟩ = some (.slice (some ⟨b, off, none⟩) n c) ∧ q.cell? ⟨B3, 1, none⟩ = some (.int .i64 j1) ∧ q.cell? ⟨b2, off2 + k * 2 + 1, none⟩ = some (.int .i64 j2) ∧ q.cell? ⟨b, off + j2 * 2 + 1, none⟩ = some (.int .i64 m2) ∧ q.cell? ⟨b, off + j1 * 2 + 1, none⟩ = some (.int .i64 m1)) (simp [go_sem, *]) (fail)
    all_goals go_wp2
    all_goals go_ret
    all_goals refine Ret.mk ?_ (?_ : Bel _ _)
    all_goals first | (rw [← H.out]; simp; done) | exact H.out | (repeat (first | with_reducible exact Bel.refl _ | with_reducible assumption | apply Bel.ext | apply Bel.alloc | apply Bel.drew | exact Bel.refl _ | refine Bel.set ?_ (by first | (simp; done) | (simp [go_sem]; done) | omega) _))
  · have h3z : (x == 2) = false := by simp [h3]
    simp only [h3, if_false] at H
    clear h3
    go_enter Try.func65, Try.ntmps65
    go_wp2
    go_region_held3 (fun q => q.cell? ⟨B1, 0, none⟩ = some (.slice (some ⟨b2, off2, none⟩) n2 c2) ∧ q.cell? ⟨B2, 0, none⟩ = some (.slice (some ⟨b, off, none⟩) n c) ∧ q.cell? ⟨B3, 1, none⟩ = some (.int .i64 j1) ∧ q.cell? ⟨b2, off2 + k * 2 + 1, none⟩ = some (.int .i64 j2) ∧ q.cell? ⟨b, off + j2 * 2 + 1, none⟩ = some (.int .i64 m2) ∧ q.cell? ⟨b, off + j1 * 2 + 1, none⟩ = some (.int .i64 m1)) (simp [go_sem, *]) (fail)
    all_goals go_wp2
    all_goals go_ret
    all_goals refine Ret.mk ?_ (?_ : Bel _ _)
    all_goals first | (rw [← H.out]; simp; done) | exact H.out | (repeat (first | with_reducible exact Bel.refl _ | with_reducible assumption | apply Bel.ext | apply Bel.alloc | apply Bel.drew | exact Bel.refl _ | refine Bel.set ?_ (by first | (simp; done) | (simp [go_sem]; done) | omega) _))
theorem deepL_step {xs es : List (Int × Int)} {by_ : Int} {c : Nat} {z : Int × Int} (h : es[c]? = some z) : deepL xs es by_ (c + 1) = deepL xs es by_ c ++ if deepOk xs es by_ c then [z] else [] := by
  rw [deepL, show es.getD c (0, 0) = z by simp [List.getD, h]]
theorem appExtremum2 : AppF Try.prog 24 88 2 16 := appF_of (z := .agg #[.int .i64 0, .int .i64 0]) Try.underlying24 (by kernel_rfl) rfl
set_option maxRecDepth 100000 in
set_option maxHeartbeats 8000000 in
theorem DeepEnough_c (u : Value) (xs : List (Int × Int)) (u2 : Value) (es : List (Int × Int)) (by_ : Int) (w : World) (hu : Rd cel2 w u xs) (hu2 : Rd cel2 w u2 es) :
    Calls Try.prog 24 #[u, u2, .int .i64 by_] w (RetRow 88 2 (fun v => .tuple #[v, .int .i64 (deepI xs es by_).2]) (deepI xs es by_).1.length (cel2.row (deepI xs es by_).1) w) := by
  generalize hR : RetRow _ _ _ _ _ w = R
  have HR := Lib.hid hR
  clear hR
  have HV := Lib.hid (fun w hu => ValidCurve_c u xs w hu)
  have HE := Lib.hid (fun w hu hu2 => areExtrema_c u xs u2 es w hu hu2)
  have HT := Lib.hid (fun w => in_c by_ 0 20000 w)
  unfold deepI at HR
  have hu' := hu; have hu2' := hu2
  obtain ⟨a, n, c, rfl, hs⟩ := hu.sl
  obtain ⟨a2, n2, c2, rfl, hs2⟩ := hu2.sl
  rcases h1 : curveB xs with _ | _ <;> rcases h2 : extOk xs.length none es with _ | _ <;> rcases h3 : inB by_ 0 20000 with _ | _ <;> simp only [h1, h2, h3, Bool.not_true, Bool.not_false, if_true, if_false, Bool.false_eq_true] at HR HV HE HT
  case true.true.true =>
    have hok := fun z (hz : z ∈ es) => (by obtain ⟨k, hk⟩ := List.mem_iff_getElem?.1 hz; exact extOk_get h2 hk : 1 ≤ z.1 ∧ z.1 ≤ 2 ∧ 0 ≤ z.2 ∧ z.2 < xs.length)
    have hcv := fun z (hz : z ∈ xs) => (by obtain ⟨k, hk⟩ := List.mem_iff_getElem?.1 hz; have := curve_get h1 hk; exact ⟨this.2.2.1, this.2.2.2⟩ : -2000 ≤ z.2 ∧ z.2 ≤ 20000)
    have hlenE := extOk_len h2 (-1) (fun q e => by cases e) (fun _ => rfl) (by omega) (by omega)
    have hlenX := curve_len h1
    have hcap := hs.le; have hmax := hs.cap
    have hcap2 := hs2.le; have hmax2 := hs2.cap
    unfold maxLen at hmax hmax2
    have HL := Lib.hid hs.len
    have HL2 := Lib.hid hs2.len
    have hn2 : n2 ≤ 100 := by rw [HL2.out]; omega
    have HOK := Lib.hid hok
    have HCV := Lib.hid hcv
    clear h1 h2 h3 hok hcv hlenE hlenX
    go_enter Try.func24, Try.ntmps24
    go_wp2_with (first | (go_at_call 55; refine Calls.mono (HV.out _ (hu'.bel ?_)) ?_; (focus (repeat (first | with_reducible exact Bel.refl _ | with_reducible assumption | apply Bel.ext | apply Bel.alloc | apply Bel.drew | exact Bel.refl _))); rintro ee ww ⟨rfl, g1, rfl⟩) | (go_at_call 64; refine Calls.mono (HE.out _ (hu'.bel ?_) (hu2'.bel ?_)) ?_; (focus (repeat (first | with_reducible exact Bel.refl _ | with_reducible assumption | apply Bel.ext | apply Bel.alloc | apply Bel.drew | exact Bel.refl _))); (focus (repeat (first | with_reducible exact Bel.refl _ | with_reducible assumption | apply Bel.ext | apply Bel.alloc | apply Bel.drew | exact Bel.refl _))); rintro ee ww ⟨rfl, g2, rfl⟩) | (go_at_call 56; refine Calls.mono (HT.out _) ?_; rintro ee ww ⟨rfl, rfl⟩))
    have C2 : (ext (ext (((w.alloc (.cells #[.slice a n c] 27)).alloc (.cells #[.slice a2 n2 c2] 24)).alloc (.cells #[.int .i64 by_] 2)) g1) g2).cell? ⟨w.heap.size, 0, none⟩ = some (.slice a n c) := by simp [go_sem]
    have C1 : (ext (ext (((w.alloc (.cells #[.slice a n c] 27)).alloc (.cells #[.slice a2 n2 c2] 24)).alloc (.cells #[.int .i64 by_] 2)) g1) g2).cell? ⟨w.heap.size + 1, 0, none⟩ = some (.slice a2 n2 c2) := by simp [go_sem]
    have C4 : (ext (ext (((w.alloc (.cells #[.slice a n c] 27)).alloc (.cells #[.slice a2 n2 c2] 24)).alloc (.cells #[.int .i64 by_] 2)) g1) g2).cell? ⟨w.heap.size + 2, 0, none⟩ = some (.int .i64 by_) := by simp [go_sem]
    have L4 : w.heap.size + 2 < (ext (ext (((w.alloc (.cells #[.slice a n c] 27)).alloc (.cells #[.slice a2 n2 c2] 24)).alloc (.cells #[.int .i64 by_] 2)) g1) g2).heap.size := Nat.lt_of_lt_of_le (Nat.lt_of_lt_of_le (by simp) (ext_size _ _)) (ext_size _ _)
    have hwA : Bel w (ext (ext (((w.alloc (.cells #[.slice a n c] 27)).alloc (.cells #[.slice a2 n2 c2] 24)).alloc (.cells #[.int .i64 by_] 2)) g1) g2) := by (repeat (first | with_reducible exact Bel.refl _ | with_reducible assumption | apply Bel.ext | apply Bel.alloc | apply Bel.drew | exact Bel.refl _ | refine Bel.set ?_ (by first | (simp; done) | (simp [go_sem]; done) | omega) _))
    generalize (ext (ext (((w.alloc (.cells #[.slice a n c] 27)).alloc (.cells #[.slice a2 n2 c2] 24)).alloc (.cells #[.int .i64 by_] 2)) g1) g2) = A at *
    replace hs := hs.bel hwA
    replace hs2 := hs2.bel hwA
    go_loopw [8, 9, 10, 11, 29] (fun o _ _ _ i wr => ∃ k : Nat, k ≤ n2 ∧ i = .int .i64 k ∧ Bel A wr ∧ Hid (wr.ownsRow A.heap.size 88 2 o (deepL xs es by_ k).length (cel2.row (deepL xs es by_ k)))) (fun _ _ _ _ i _ => n2 - (intOf i).toNat)
    case atStart => exact ⟨0, Nat.zero_le _, rfl, by (repeat (first | with_reducible exact Bel.refl _ | with_reducible assumption | apply Bel.ext | apply Bel.alloc | apply Bel.drew | exact Bel.refl _ | refine Bel.set ?_ (by first | (simp; done) | (simp [go_sem]; done) | omega) _)), Lib.hid (by refine own_empty _ _ _ _ ?_; exact bel_size (by (repeat (first | with_reducible exact Bel.refl _ | with_reducible assumption | apply Bel.ext | apply Bel.alloc | apply Bel.drew | exact Bel.refl _ | refine Bel.set ?_ (by first | (simp; done) | (simp [go_sem]; done) | omega) _))))⟩
    case round =>
      obtain ⟨k, hk, rfl, hbel, hown⟩ := hrel
      obtain ⟨g, rfl⟩ := ext_ex hbel
      by_cases hlt : k < n2
      · obtain ⟨b2, off2, rfl, hb2⟩ := hs2.base hlt
        obtain ⟨x, y, hx, d0, d1⟩ := hs2.at2 hlt
        have hstep := deepL_step (xs := xs) (by_ := by_) hx.out
        rw [deepOk_nbK (by have := (List.getElem?_eq_some_iff.1 hx.out).1; exact this)] at hstep
        have hdl := deepL_len xs es by_ k
        have w1 : IntKind.i64.wrap ((k : Int) - 1) = (k : Int) - 1 := IntWalk.i64_in _ (by omega)
        go_wp2_with fail
        have hbD : Bel (ext A g) ((ext A g).alloc (Obj.cells #[.int .i64 x, .int .i64 y] 88)) := by (repeat (first | with_reducible exact Bel.refl _ | with_reducible assumption | apply Bel.ext | apply Bel.alloc | apply Bel.drew | exact Bel.refl _ | refine Bel.set ?_ (by first | (simp; done) | (simp [go_sem]; done) | omega) _))
        have hAD : Bel A ((ext A g).alloc (Obj.cells #[.int .i64 x, .int .i64 y] 88)) := by (repeat (first | with_reducible exact Bel.refl _ | with_reducible assumption | apply Bel.ext | apply Bel.alloc | apply Bel.drew | exact Bel.refl _ | refine Bel.set ?_ (by first | (simp; done) | (simp [go_sem]; done) | omega) _))
        have E3 : ((ext A g).alloc (Obj.cells #[.int .i64 x, .int .i64 y] 88)).cell? ⟨(ext A g).heap.size, 0, none⟩ = some (.int .i64 x) := by simp [go_sem]
        have E3' : ((ext A g).alloc (Obj.cells #[.int .i64 x, .int .i64 y] 88)).cell? ⟨(ext A g).heap.size, 1, none⟩ = some (.int .i64 y) := by simp [go_sem]
        have L3 : (ext A g).heap.size < ((ext A g).alloc (Obj.cells #[.int .i64 x, .int .i64 y] 88)).heap.size := by simp
        have E1 : ((ext A g).alloc (Obj.cells #[.int .i64 x, .int .i64 y] 88)).cell? ⟨w.heap.size + 1, 0, none⟩ = some (.slice (some ⟨b2, off2, none⟩) n2 c2) := by rw [Below.cell hAD (p := ⟨w.heap.size + 1, 0, none⟩) (by simp; omega)]; exact C1
        have E2 : ((ext A g).alloc (Obj.cells #[.int .i64 x, .int .i64 y] 88)).cell? ⟨w.heap.size, 0, none⟩ = some (.slice a n c) := by rw [Below.cell hAD (p := ⟨w.heap.size, 0, none⟩) (by simp; omega)]; exact C2
        have E4 : ((ext A g).alloc (Obj.cells #[.int .i64 x, .int .i64 y] 88)).cell? ⟨w.heap.size + 1 + 1, 0, none⟩ = some (.int .i64 by_) := by rw [Below.cell hAD (p := ⟨w.heap.size + 1 + 1, 0, none⟩) (by simp; omega)]; exact C4
        have hownD := own_bel hown.out hbD
        clear hown
        have hown := Lib.hid hownD
        have hsD := hs.bel hAD
        have hs2D := hs2.bel hAD
        have hAs := hAD.size
        clear hownD
        generalize ((ext A g).alloc (Obj.cells #[.int .i64 x, .int .i64 y] 88)) = D at *
        generalize (ext A g).heap.size = B3 at *
        have HD := Lib.hid (fun j X (hX : Bel D X) => deep_pred a n c (some ⟨b2, off2, none⟩) n2 c2 xs es by_ k x y (w.heap.size + 1) w.heap.size B3 (w.heap.size + 1 + 1) j X (hsD.bel hX) (hs2D.bel hX) hx.out HOK.out HCV.out
          (by have := hX.size; omega) (by have := hX.size; omega) (by have := hX.size; omega) (by have := hX.size; omega)
          (by rw [Below.cell hX (p := ⟨w.heap.size + 1, 0, none⟩) (by simp; omega)]; exact E1) (by rw [Below.cell hX (p := ⟨w.heap.size, 0, none⟩) (by simp; omega)]; exact E2) (by rw [Below.cell hX (p := ⟨B3, 0, none⟩) L3]; exact E3) (by rw [Below.cell hX (p := ⟨B3, 1, none⟩) L3]; exact E3') (by rw [Below.cell hX (p := ⟨w.heap.size + 1 + 1, 0, none⟩) (by simp; omega)]; exact E4))
        have HS := Lib.hid hstep
        clear hstep
        have H1 : ∀ X, Bel D X → Calls Try.prog 65 #[.int .i64 ((k : Int) - 1), .pointer (some ⟨w.heap.size + 1, 0, none⟩), .pointer (some ⟨w.heap.size, 0, none⟩), .pointer (some ⟨B3, 0, none⟩), .pointer (some ⟨w.heap.size + 1 + 1, 0, none⟩)] X (Ret (.bool (nbK xs es by_ k ((k : Int) - 1))) X) := fun X hX => HD.out _ X hX
        have h2 : ∀ X, Bel D X → Calls Try.prog 65 #[.int .i64 ((k : Int) + 1), .pointer (some ⟨w.heap.size + 1, 0, none⟩), .pointer (some ⟨w.heap.size, 0, none⟩), .pointer (some ⟨B3, 0, none⟩), .pointer (some ⟨w.heap.size + 1 + 1, 0, none⟩)] X (Ret (.bool (nbK xs es by_ k ((k : Int) + 1))) X) := fun X hX => HD.out _ X hX
        have H2 := Lib.hid h2
        clear h2 HD
        generalize nbK xs es by_ k ((k : Int) - 1) = q1 at *
        generalize nbK xs es by_ k ((k : Int) + 1) = q2 at *
        have w2 : IntKind.i64.wrap ((k : Int) + 1) = (k : Int) + 1 := IntWalk.i64_in _ (by omega)
        refine Calls.mono (H1 _ (Bel.refl _)) ?_
        clear H1
        rintro ee ww ⟨rfl, g3, rfl⟩
        cases q1
        · simp only [Bool.false_and, Bool.false_eq_true, if_false, List.append_nil] at HS
          go_wp2
          go_roundw
          case rel =>
            refine ⟨k + 1, by omega, by go_num, Below.trans hAD (Below.mono (by (repeat (first | with_reducible exact Bel.refl _ | with_reducible assumption | apply Bel.ext | apply Bel.alloc | apply Bel.drew | exact Bel.refl _ | refine Bel.set ?_ (by first | (simp; done) | (simp [go_sem]; done) | omega) _)) : Bel D _) hAs), Lib.hid ?_⟩
            rw [HS.out]; exact own_bel hown.out (by (repeat (first | with_reducible exact Bel.refl _ | with_reducible assumption | apply Bel.ext | apply Bel.alloc | apply Bel.drew | exact Bel.refl _ | refine Bel.set ?_ (by first | (simp; done) | (simp [go_sem]; done) | omega) _)))
          case measure => simp [intOf]; omega
        cases q2
        · simp only [Bool.and_false, Bool.false_eq_true, if_false, List.append_nil] at HS
          go_wp2_with (first | (go_at_call 65; refine Calls.mono (H2.out _ ?_) ?_; (focus (repeat (first | with_reducible exact Bel.refl _ | with_reducible assumption | apply Bel.ext | apply Bel.alloc | apply Bel.drew | exact Bel.refl _))); rintro ee ww ⟨rfl, g4, rfl⟩))
          go_roundw
          case rel =>
            refine ⟨k + 1, by omega, by go_num, Below.trans hAD (Below.mono (by (repeat (first | with_reducible exact Bel.refl _ | with_reducible assumption | apply Bel.ext | apply Bel.alloc | apply Bel.drew | exact Bel.refl _ | refine Bel.set ?_ (by first | (simp; done) | (simp [go_sem]; done) | omega) _)) : Bel D _) hAs), Lib.hid ?_⟩
            rw [HS.out]; exact own_bel hown.out (by (repeat (first | with_reducible exact Bel.refl _ | with_reducible assumption | apply Bel.ext | apply Bel.alloc | apply Bel.drew | exact Bel.refl _ | refine Bel.set ?_ (by first | (simp; done) | (simp [go_sem]; done) | omega) _)))
          case measure => simp [intOf]; omega
        · simp only [Bool.and_true, if_true] at HS
          generalize deepL xs es by_ k = ys at *
          go_wp2_with (first | (at_builtin; refine wpList_append_new rfl (.tmp 45) (.tmp 47) 24 88 2 16 rfl appExtremum2 (by decide) A _ _ _ 1 [.int .i64 x, .int .i64 y] rfl (by first | with_reducible rfl | (simp [go_sem]; done)) rfl (by intro u hu; simp at hu; first | (subst hu; rfl) | (rcases hu with rfl | rfl <;> rfl) | (rcases hu with rfl | rfl | rfl <;> rfl)) (own_bel hown.out ?_) ?_ (by omega) (by omega) ?_; (focus (repeat (first | with_reducible exact Bel.refl _ | with_reducible assumption | apply Bel.ext | apply Bel.alloc | apply Bel.drew | exact Bel.refl _))); (focus (repeat (first | with_reducible exact Bel.refl _ | with_reducible assumption | apply Bel.ext | apply Bel.alloc | apply Bel.drew | exact Bel.refl _))); intro v2 g2 hown2 hgr2) | (go_at_call 65; refine Calls.mono (H2.out _ ?_) ?_; (focus (repeat (first | with_reducible exact Bel.refl _ | with_reducible assumption | apply Bel.ext | apply Bel.alloc | apply Bel.drew | exact Bel.refl _))); rintro ee ww ⟨rfl, g4, rfl⟩))
          go_roundw
          case rel =>
            refine ⟨k + 1, by omega, by go_num, by (repeat (first | with_reducible exact Bel.refl _ | with_reducible assumption | apply Bel.ext | apply Bel.alloc | apply Bel.drew | exact Bel.refl _ | refine Bel.set ?_ (by first | (simp; done) | (simp [go_sem]; done) | omega) _)), Lib.hid ?_⟩
            rw [HS.out, Cel.row_append, Cel.row_one, List.length_append]; exact hown2
          case measure => simp [intOf]; omega
      · have hkn : k = n2 := by omega
        subst hkn
        rw [← HL2.out] at HR
        go_wp2
        rw [← HR.out]
        refine RetRow.mk' rfl ?_ (own_mono hown.out hwA.size)
        exact Below.trans hwA (Below.mono (by (repeat (first | with_reducible exact Bel.refl _ | with_reducible assumption | apply Bel.ext | apply Bel.alloc | apply Bel.drew | exact Bel.refl _ | refine Bel.set ?_ (by first | (simp; done) | (simp [go_sem]; done) | omega) _)) : Bel A _) hwA.size)
  all_goals
    clear h1 h2 h3
    go_enter Try.func24, Try.ntmps24
    go_wp2_with (first | (go_at_call 55; refine Calls.mono (HV.out _ (hu'.bel ?_)) ?_; (focus (repeat (first | with_reducible exact Bel.refl _ | with_reducible assumption | apply Bel.ext | apply Bel.alloc | apply Bel.drew | exact Bel.refl _))); rintro ee ww ⟨rfl, _, rfl⟩) | (go_at_call 64; refine Calls.mono (HE.out _ (hu'.bel ?_) (hu2'.bel ?_)) ?_; (focus (repeat (first | with_reducible exact Bel.refl _ | with_reducible assumption | apply Bel.ext | apply Bel.alloc | apply Bel.drew | exact Bel.refl _))); (focus (repeat (first | with_reducible exact Bel.refl _ | with_reducible assumption | apply Bel.ext | apply Bel.alloc | apply Bel.drew | exact Bel.refl _))); rintro ee ww ⟨rfl, _, rfl⟩) | (go_at_call 56; refine Calls.mono (HT.out _) ?_; rintro ee ww ⟨rfl, rfl⟩))
    rw [← HR.out]
    exact RetRow.mk' rfl (by (repeat (first | with_reducible exact Bel.refl _ | with_reducible assumption | apply Bel.ext | apply Bel.alloc | apply Bel.drew | exact Bel.refl _ | refine Bel.set ?_ (by first | (simp; done) | (simp [go_sem]; done) | omega) _)) : Bel _ _) (World.ownsRow_nil _ _ _ _)
end Go.Proofs.Ytknlkljflibjbaa
