/- The times at which a light curve has a level: what both sides return. -/
import Derived.Test.YtknlkljflibjbaaExtPlain
import Derived.Test.YtknlkljflibjbaaRowFraction
namespace Go.Proofs.Ytknlkljflibjbaa
open Go.RowKit

def crossN (L ta ya tb yb : Int) : Int := ta * absI (yb - ya) + (tb - ta) * absI (ya - L)
def crossD (ya yb : Int) : Int := absI (yb - ya)
def crossB (L ya yb : Int) : Bool := decide (ya < L) != decide (yb < L)
def crossL (L : Int) (xs : List (Int × Int)) : Nat → List (Int × Int)
  | 0 => []
  | c + 1 => crossL L xs c ++ if crossB L (xs.getD c (0, 0)).2 (xs.getD (c + 1) (0, 0)).2 then
      [(fracN (crossN L (xs.getD c (0, 0)).1 (xs.getD c (0, 0)).2 (xs.getD (c + 1) (0, 0)).1 (xs.getD (c + 1) (0, 0)).2) (crossD (xs.getD c (0, 0)).2 (xs.getD (c + 1) (0, 0)).2),
        fracD (crossN L (xs.getD c (0, 0)).1 (xs.getD c (0, 0)).2 (xs.getD (c + 1) (0, 0)).1 (xs.getD (c + 1) (0, 0)).2) (crossD (xs.getD c (0, 0)).2 (xs.getD (c + 1) (0, 0)).2))] else []
theorem crossL_step (L : Int) {xs : List (Int × Int)} {c : Nat} {ta ya tb yb : Int} (h1 : xs[c]? = some (ta, ya)) (h2 : xs[c + 1]? = some (tb, yb)) :
    crossL L xs (c + 1) = crossL L xs c ++ if crossB L ya yb then [(fracN (crossN L ta ya tb yb) (crossD ya yb), fracD (crossN L ta ya tb yb) (crossD ya yb))] else [] := by
  have f1 : xs.getD c (0, 0) = (ta, ya) := by simp [List.getD, h1]
  have f2 : xs.getD (c + 1) (0, 0) = (tb, yb) := by simp [List.getD, h2]
  rw [crossL, f1, f2]
theorem crossL_len (L : Int) (xs : List (Int × Int)) : ∀ c, (crossL L xs c).length ≤ c
  | 0 => by simp [crossL]
  | c + 1 => by
    have := crossL_len L xs c
    rw [crossL, List.length_append]; split <;> simp <;> omega
theorem absI_nonneg (n : Int) : 0 ≤ absI n := by unfold absI; split <;> omega
theorem absI_of_nonneg {n : Int} (h : 0 ≤ n) : absI n = n := by unfold absI; rw [if_neg (by omega)]
theorem absI_of_neg {n : Int} (h : n ≤ 0) : absI n = -n := by unfold absI; split <;> omega
theorem mul_bd {a b A B : Int} (a0 : -A ≤ a) (a1 : a ≤ A) (b0 : -B ≤ b) (b1 : b ≤ B) : -(A * B) ≤ a * b ∧ a * b ≤ A * B := by
  have hA : 0 ≤ A := by omega
  have hB : 0 ≤ B := by omega
  rcases Int.le_total 0 b with h | h
  · have h1 := Int.mul_le_mul_of_nonneg_right a1 h
    have h2 := Int.mul_le_mul_of_nonneg_right a0 h
    have h3 := Int.mul_le_mul_of_nonneg_left b1 hA
    rw [Int.neg_mul] at h2
    omega
  · have h1 := Int.mul_le_mul_of_nonpos_right a1 h
    have h2 := Int.mul_le_mul_of_nonpos_right a0 h
    have h3 := Int.mul_le_mul_of_nonneg_left b0 hA
    rw [Int.neg_mul] at h2
    rw [Int.mul_neg] at h3
    omega
theorem mul_in2 {a b A B : Int} (a0 : 0 ≤ a) (a1 : a ≤ A) (b0 : 0 ≤ b) (b1 : b ≤ B) : 0 ≤ a * b ∧ a * b ≤ A * B :=
  ⟨Int.mul_nonneg a0 b0, Int.mul_le_mul a1 b1 b0 (by omega)⟩
theorem cross_bd {L ta ya tb yb : Int} (l1 : -2000 ≤ L) (l2 : L ≤ 20000) (t1 : 0 ≤ ta) (t2 : ta ≤ 10000000) (y1 : -2000 ≤ ya) (y2 : ya ≤ 20000) (t3 : ta < tb) (t4 : tb ≤ 10000000) (y3 : -2000 ≤ yb) (y4 : yb ≤ 20000) (h : crossB L ya yb = true) :
    0 ≤ crossN L ta ya tb yb ∧ crossN L ta ya tb yb ≤ 440000000000 ∧ 1 ≤ crossD ya yb ∧ crossD ya yb ≤ 22000 := by
  have d1 : 1 ≤ absI (yb - ya) ∧ absI (yb - ya) ≤ 22000 := by
    unfold crossB at h
    simp only [bne_iff_ne, ne_eq, decide_eq_decide] at h
    unfold absI; split <;> omega
  have e1 : 0 ≤ absI (ya - L) ∧ absI (ya - L) ≤ 22000 := by unfold absI; split <;> omega
  unfold crossN crossD
  have m1 := Int.mul_nonneg t1 (show 0 ≤ absI (yb - ya) by omega)
  have m2 := Int.mul_nonneg (show 0 ≤ tb - ta by omega) e1.1
  have m3 := Int.mul_le_mul t2 d1.2 (show 0 ≤ absI (yb - ya) by omega) (show (0 : Int) ≤ 10000000 by omega)
  have m4 := Int.mul_le_mul (show tb - ta ≤ 10000000 by omega) e1.2 e1.1 (show (0 : Int) ≤ 10000000 by omega)
  omega
theorem frac_in {n d : Int} (n1 : 0 ≤ n) (d1 : 1 ≤ d) : 0 ≤ fracN n d ∧ fracN n d ≤ n ∧ 1 ≤ fracD n d ∧ fracD n d ≤ d := by
  have hg := gcdI_pos n d (by omega)
  have e := Int.ediv_mul_cancel (show gcdI n d ∣ d from Int.gcd_dvd_right n d)
  unfold fracN fracD
  rw [Int.tdiv_eq_ediv_of_nonneg n1]
  have a1 := Int.ediv_nonneg n1 (show 0 ≤ gcdI n d by omega)
  have a2 := Int.ediv_le_self (gcdI n d) n1
  have a3 := Int.ediv_nonneg (show 0 ≤ d by omega) (show 0 ≤ gcdI n d by omega)
  have a4 := Int.ediv_le_self (gcdI n d) (show 0 ≤ d by omega)
  refine ⟨a1, a2, ?_, a4⟩
  rcases Int.lt_or_le 0 (d / gcdI n d) with h | h
  · omega
  · have h0 : d / gcdI n d = 0 := by omega
    rw [h0] at e; omega
theorem crossL_mem {L : Int} {xs : List (Int × Int)} (hc : curveB xs = true) (l1 : -2000 ≤ L) (l2 : L ≤ 20000) : ∀ {c : Nat}, c + 1 ≤ xs.length → ∀ {x : Int × Int}, x ∈ crossL L xs c → 0 ≤ x.1 ∧ x.1 ≤ 440000000000 ∧ 1 ≤ x.2 ∧ x.2 ≤ 22000
  | 0, _, x, h => by simp [crossL] at h
  | c + 1, hl, x, h => by
    have e1 : xs[c]? = some (xs[c].1, xs[c].2) := List.getElem?_eq_getElem (by omega)
    have e2 : xs[c + 1]? = some (xs[c + 1].1, xs[c + 1].2) := List.getElem?_eq_getElem (by omega)
    rw [crossL_step L e1 e2] at h
    rcases List.mem_append.1 h with h | h
    · exact crossL_mem hc l1 l2 (by omega) h
    · split at h
      · rename_i hb
        simp only [List.mem_singleton] at h
        subst h
        have q1 := curve_get hc e1
        have q2 := curve_get hc e2
        have q3 := curve_lt hc (Nat.lt_succ_self c) e1 e2
        simp only at q1 q2 q3
        have b := cross_bd l1 l2 q1.1 q1.2.1 q1.2.2.1 q1.2.2.2 q3 q2.2.1 q2.2.2.1 q2.2.2.2 hb
        have f := frac_in b.1 b.2.2.1
        simp only
        omega
      · simp at h
def crossI (xs : List (Int × Int)) (L : Int) : List (Int × Int) × Int := if !curveB xs then ([], 1) else if !magB L then ([], 2) else (crossL L xs (xs.length - 1), 0)
def midL (fs : List (Int × Int)) : Nat → List (Int × Int)
  | 0 => []
  | c + 1 => midL fs c ++ [(fracN ((fs.getD c (0, 0)).1 * (fs.getD (c + 1) (0, 0)).2 + (fs.getD (c + 1) (0, 0)).1 * (fs.getD c (0, 0)).2) (2 * (fs.getD c (0, 0)).2 * (fs.getD (c + 1) (0, 0)).2),
      fracD ((fs.getD c (0, 0)).1 * (fs.getD (c + 1) (0, 0)).2 + (fs.getD (c + 1) (0, 0)).1 * (fs.getD c (0, 0)).2) (2 * (fs.getD c (0, 0)).2 * (fs.getD (c + 1) (0, 0)).2))]
theorem midL_len (fs : List (Int × Int)) : ∀ c, (midL fs c).length = c
  | 0 => by simp [midL]
  | c + 1 => by rw [midL, List.length_append, midL_len fs c]; rfl
theorem midL_step {fs : List (Int × Int)} {c : Nat} {a b n d : Int} (h1 : fs[c]? = some (a, b)) (h2 : fs[c + 1]? = some (n, d)) :
    midL fs (c + 1) = midL fs c ++ [(fracN (a * d + n * b) (2 * b * d), fracD (a * d + n * b) (2 * b * d))] := by
  have f1 : fs.getD c (0, 0) = (a, b) := by simp [List.getD, h1]
  have f2 : fs.getD (c + 1) (0, 0) = (n, d) := by simp [List.getD, h2]
  rw [midL, f1, f2]
def midI (xs : List (Int × Int)) (L : Int) : List (Int × Int) × Int := if (crossI xs L).2 ≠ 0 then ([], (crossI xs L).2) else (midL (crossI xs L).1 ((crossI xs L).1.length - 1), 0)
theorem crossI_fine (xs : List (Int × Int)) (L : Int) (h : (crossI xs L).2 = 0) : (∀ x ∈ (crossI xs L).1, 0 ≤ x.1 ∧ x.1 ≤ 440000000000 ∧ 1 ≤ x.2 ∧ x.2 ≤ 22000) ∧ (crossI xs L).1.length ≤ 100 := by
  unfold crossI at *
  split at h
  · simp at h
  split at h
  · simp at h
  rename_i h1 h2
  rw [if_neg h1, if_neg h2]
  simp only [Bool.not_eq_true, Bool.not_eq_false'] at h1 h2
  obtain ⟨l1, l2⟩ := magB_iff.1 h2
  have h3 := crossL_len L xs (xs.length - 1)
  have h4 := curve_len h1
  refine ⟨fun x hx => ?_, by dsimp only; omega⟩
  rcases Nat.eq_zero_or_pos xs.length with h0 | h0
  · rw [h0] at hx; simp [crossL] at hx
  · exact crossL_mem h1 l1 l2 (by omega) hx
theorem midI_len (xs : List (Int × Int)) (L : Int) : (midI xs L).1.length ≤ 100 := by
  unfold midI; split
  · simp
  · rename_i h
    have := (crossI_fine xs L (Classical.byContradiction h)).2
    rw [midL_len]; omega
theorem appFraction2 : AppF Try.prog 44 57 2 16 := appF_of (z := .agg #[.int .i64 0, .int .i64 0]) Try.underlying44 (by kernel_rfl) rfl
theorem cross_up {L ta ya tb yb : Int} (h1 : ya < L) (h2 : L ≤ yb) : crossN L ta ya tb yb = ta * (yb - ya) + (L - ya) * (tb - ta) ∧ crossD ya yb = yb - ya := by
  unfold crossN crossD
  rw [absI_of_nonneg (show 0 ≤ yb - ya by omega), absI_of_neg (show ya - L ≤ 0 by omega)]
  exact ⟨by grind, rfl⟩
theorem cross_down {L ta ya tb yb : Int} (h1 : L ≤ ya) (h2 : yb < L) : crossN L ta ya tb yb = -(ta * (yb - ya) + (L - ya) * (tb - ta)) ∧ crossD ya yb = -(yb - ya) := by
  unfold crossN crossD
  rw [absI_of_neg (show yb - ya ≤ 0 by omega), absI_of_nonneg (show 0 ≤ ya - L by omega)]
  exact ⟨by grind, rfl⟩
set_option maxHeartbeats 8000000 in
theorem crossings_c (u : Value) (xs : List (Int × Int)) (L : Int) (w : World) (hu : Rd cel2 w u xs) :
    Calls Try.prog 69 #[u, .int .i64 L] w (RetRow 57 2 (fun v => .tuple #[v, .int .i64 (crossI xs L).2]) (crossI xs L).1.length (cel2.row (crossI xs L).1) w) := by
  generalize hR : RetRow _ _ _ _ _ w = R
  have HR := Lib.hid hR
  clear hR
  have hu' := hu
  obtain ⟨a, n, c0, rfl, hs⟩ := hu'.sl
  have hcap := hs.le; have hmax := hs.cap
  unfold maxLen at hmax
  have HL := Lib.hid hs.len
  have HV := Lib.hid (fun w hu => ValidCurve_c (.slice a n c0) xs w hu)
  have HT := Lib.hid (fun w => ValidMag_c L w)
  unfold crossI at HR
  rw [← HL.out] at HR
  rcases h1 : curveB xs with _ | _ <;> rcases h2 : magB L with _ | _ <;> simp only [h1, h2, Bool.not_true, Bool.not_false, if_true, if_false, Bool.false_eq_true] at HR HV HT
  case true.true =>
    obtain ⟨l1, l2⟩ := magB_iff.1 h2
    have hlen := curve_len h1
    rw [← HL.out] at hlen
    have HC := Lib.hid h1
    clear h1 h2
    go_enter Try.func69, Try.ntmps69
    go_wp2_with (first | (go_at_call 55; refine Calls.mono (HV.out _ (hu.bel ?_)) ?_; (focus (repeat (first | exact Bel.refl _ | apply Bel.ext | apply Bel.alloc | apply Bel.drew))); rintro ee ww ⟨rfl, _, rfl⟩) | (go_at_call 81; refine Calls.mono (HT.out _) ?_; rintro ee ww ⟨rfl, rfl⟩))
    go_loopw [6, 7] (fun o i wr => ∃ c : Nat, c ≤ n ∧ (c = 0 ∨ c + 1 ≤ n) ∧ i = .int .i64 ((c : Int) + 1) ∧ Bel w wr ∧ Hid (wr.ownsRow w.heap.size 57 2 o (crossL L xs c).length (cel2.row (crossL L xs c)))) (fun _ i _ => n + 1 - (intOf i).toNat)
    case atStart => exact ⟨0, Nat.zero_le _, .inl rfl, by go_num, by (repeat (first | exact Bel.refl _ | apply Bel.ext | apply Bel.alloc | apply Bel.drew | refine Bel.set ?_ (by first | (simp; done) | (simp [go_sem]; done) | omega) _)), Lib.hid (by refine own_empty _ _ _ _ ?_; exact bel_size (by (repeat (first | exact Bel.refl _ | apply Bel.ext | apply Bel.alloc | apply Bel.drew | refine Bel.set ?_ (by first | (simp; done) | (simp [go_sem]; done) | omega) _))))⟩
    case round =>
      obtain ⟨c, hc1, hc2, rfl, hbel, hown⟩ := hrel
      obtain ⟨g, rfl⟩ := ext_ex hbel
      by_cases hlt : c + 1 < n
      · have hltz : (c : Int) + 1 < n := by omega
        have z1 : (0 : Int) ≤ (c : Int) := by omega
        have z2 : (c : Int) < n := by omega
        have z3 : (0 : Int) ≤ (c : Int) + 1 := by omega
        obtain ⟨b, off, rfl, hb⟩ := hs.base hlt
        obtain ⟨ta, ya, hx, ha0, ha1⟩ := hs.at2 (k := c) (by omega)
        obtain ⟨tb, yb, hy, hb0, hb1⟩ := hs.at2 hlt
        have q1 := curve_get HC.out hx.out
        have q2 := curve_get HC.out hy.out
        have q3 := curve_lt HC.out (Nat.lt_succ_self c) hx.out hy.out
        simp only at q1 q2 q3
        obtain ⟨t1, t2, y1, y2⟩ := q1
        obtain ⟨t3, t4, y3, y4⟩ := q2
        have hst := crossL_step L hx.out hy.out
        have hfl := crossL_len L xs c
        have k1 : IntKind.i64.wrap ((c : Int) + 1 - 1) = (c : Int) := by rw [show (c : Int) + 1 - 1 = c from by omega]; exact IntWalk.i64_in _ (by omega)
        have k1' : IntKind.i64.wrap (c : Int) = (c : Int) := IntWalk.i64_in _ (by omega)
        have k2 : ((c : Int) + 1).toNat = c + 1 := by omega
        obtain ⟨m1, m2⟩ := mul_bd (A := 10000000) (B := 22000) (show -10000000 ≤ ta by omega) t2 (show -22000 ≤ yb - ya by omega) (by omega)
        obtain ⟨m3, m4⟩ := mul_bd (A := 22000) (B := 10000000) (show -22000 ≤ L - ya by omega) (by omega) (show -10000000 ≤ tb - ta by omega) (by omega)
        rcases Int.lt_or_le ya L with hA | hA <;> rcases Int.lt_or_le yb L with hB | hB
        · have hcb : crossB L ya yb = false := by unfold crossB; rw [show decide (ya < L) = true from decide_eq_true (by omega), show decide (yb < L) = true from decide_eq_true (by omega)]; rfl
          rw [hcb] at hst
          simp only [Bool.false_eq_true, if_false, List.append_nil] at hst
          have HF := Lib.hid hst
          clear hst hcb
          have hd1 : decide (ya < L) = true := decide_eq_true (by omega)
          have hd2 : decide (yb < L) = true := decide_eq_true (by omega)
          generalize crossL L xs c = ys at *
          go_wp2_with fail
          go_region_held3 (fun q => q.cell? ⟨b, off + c * 2, none⟩ = some (.int .i64 ta) ∧ q.cell? ⟨b, off + c * 2 + 1, none⟩ = some (.int .i64 ya) ∧ q.cell? ⟨b, off + (c + 1) * 2, none⟩ = some (.int .i64 tb) ∧ q.cell? ⟨b, off + (c + 1) * 2 + 1, none⟩ = some (.int .i64 yb)) (simp [go_sem, *]) (fail)
          all_goals clear k1 k1'
          all_goals go_wp2
          all_goals
            go_roundw
            case rel =>
              refine ⟨c + 1, by omega, .inr (by omega), by go_num, by (repeat (first | exact Bel.refl _ | apply Bel.ext | apply Bel.alloc | apply Bel.drew | refine Bel.set ?_ (by first | (simp; done) | (simp [go_sem]; done) | omega) _)), Lib.hid ?_⟩
              rw [HF.out]; exact own_bel hown.out (by (repeat (first | exact Bel.refl _ | apply Bel.ext | apply Bel.alloc | apply Bel.drew | refine Bel.set ?_ (by first | (simp; done) | (simp [go_sem]; done) | omega) _)))
            case measure => simp [intOf]; omega
        · have hcb : crossB L ya yb = true := by unfold crossB; rw [show decide (ya < L) = true from decide_eq_true (by omega), show decide (yb < L) = false from decide_eq_false (by omega)]; rfl
          obtain ⟨ec1, ec2⟩ := cross_up (ta := ta) (tb := tb) (L := L) (ya := ya) (yb := yb) (by omega) (by omega)
          rw [hcb, if_pos rfl, ec1, ec2] at hst
          have HF := Lib.hid hst
          clear hst hcb ec1 ec2
          have hd1 : decide (ya < L) = true := decide_eq_true (by omega)
          have hd2 : decide (yb < L) = false := decide_eq_false (by omega)
          generalize crossL L xs c = ys at *
          go_wp2_with fail
          go_region_held3 (fun q => q.cell? ⟨b, off + c * 2, none⟩ = some (.int .i64 ta) ∧ q.cell? ⟨b, off + c * 2 + 1, none⟩ = some (.int .i64 ya) ∧ q.cell? ⟨b, off + (c + 1) * 2, none⟩ = some (.int .i64 tb) ∧ q.cell? ⟨b, off + (c + 1) * 2 + 1, none⟩ = some (.int .i64 yb)) (simp [go_sem, *]) (fail)
          all_goals clear k1 k1'
          all_goals go_wp2_with (first | (at_builtin; refine wpList_append_new rfl (.tmp 49) (.tmp 67) 44 57 2 16 rfl appFraction2 (by decide) w _ _ _ 1 [.int .i64 (fracN (ta * (yb - ya) + (L - ya) * (tb - ta)) (yb - ya)), .int .i64 (fracD (ta * (yb - ya) + (L - ya) * (tb - ta)) (yb - ya))] rfl (by first | with_reducible rfl | (simp [go_sem]; done)) rfl (by intro u hu; simp at hu; first | (subst hu; rfl) | (rcases hu with rfl | rfl <;> rfl) | (rcases hu with rfl | rfl | rfl <;> rfl)) (own_bel hown.out ?_) ?_ (by omega) (by omega) ?_; (focus (repeat (first | exact Bel.refl _ | apply Bel.ext | apply Bel.alloc | apply Bel.drew))); (focus (repeat (first | exact Bel.refl _ | apply Bel.ext | apply Bel.alloc | apply Bel.drew))); intro v2 g2 hown2 hgr2) | (go_at_call 70; refine (lowest_c _ _ (by omega) (by omega) (by omega) (by omega) _).mono ?_; rintro ee ww ⟨rfl, _, rfl⟩))
          all_goals
            go_roundw
            case rel =>
              refine ⟨c + 1, by omega, .inr (by omega), by go_num, by (repeat (first | exact Bel.refl _ | apply Bel.ext | apply Bel.alloc | apply Bel.drew | refine Bel.set ?_ (by first | (simp; done) | (simp [go_sem]; done) | omega) _)), Lib.hid ?_⟩
              rw [HF.out, Cel.row_append, Cel.row_one, List.length_append]; exact hown2
            case measure => simp [intOf]; omega
        · have hcb : crossB L ya yb = true := by unfold crossB; rw [show decide (ya < L) = false from decide_eq_false (by omega), show decide (yb < L) = true from decide_eq_true (by omega)]; rfl
          obtain ⟨ec1, ec2⟩ := cross_down (ta := ta) (tb := tb) (L := L) (ya := ya) (yb := yb) (by omega) (by omega)
          rw [hcb, if_pos rfl, ec1, ec2] at hst
          have HF := Lib.hid hst
          clear hst hcb ec1 ec2
          have hd1 : decide (ya < L) = false := decide_eq_false (by omega)
          have hd2 : decide (yb < L) = true := decide_eq_true (by omega)
          generalize crossL L xs c = ys at *
          go_wp2_with fail
          go_region_held3 (fun q => q.cell? ⟨b, off + c * 2, none⟩ = some (.int .i64 ta) ∧ q.cell? ⟨b, off + c * 2 + 1, none⟩ = some (.int .i64 ya) ∧ q.cell? ⟨b, off + (c + 1) * 2, none⟩ = some (.int .i64 tb) ∧ q.cell? ⟨b, off + (c + 1) * 2 + 1, none⟩ = some (.int .i64 yb)) (simp [go_sem, *]) (fail)
          all_goals clear k1 k1'
          all_goals go_wp2_with (first | (at_builtin; refine wpList_append_new rfl (.tmp 49) (.tmp 67) 44 57 2 16 rfl appFraction2 (by decide) w _ _ _ 1 [.int .i64 (fracN (-(ta * (yb - ya) + (L - ya) * (tb - ta))) (-(yb - ya))), .int .i64 (fracD (-(ta * (yb - ya) + (L - ya) * (tb - ta))) (-(yb - ya)))] rfl (by first | with_reducible rfl | (simp [go_sem]; done)) rfl (by intro u hu; simp at hu; first | (subst hu; rfl) | (rcases hu with rfl | rfl <;> rfl) | (rcases hu with rfl | rfl | rfl <;> rfl)) (own_bel hown.out ?_) ?_ (by omega) (by omega) ?_; (focus (repeat (first | exact Bel.refl _ | apply Bel.ext | apply Bel.alloc | apply Bel.drew))); (focus (repeat (first | exact Bel.refl _ | apply Bel.ext | apply Bel.alloc | apply Bel.drew))); intro v2 g2 hown2 hgr2) | (go_at_call 70; refine (lowestN_c _ _ (by omega) (by omega) (by omega) (by omega) _).mono ?_; rintro ee ww ⟨rfl, _, rfl⟩))
          all_goals
            go_roundw
            case rel =>
              refine ⟨c + 1, by omega, .inr (by omega), by go_num, by (repeat (first | exact Bel.refl _ | apply Bel.ext | apply Bel.alloc | apply Bel.drew | refine Bel.set ?_ (by first | (simp; done) | (simp [go_sem]; done) | omega) _)), Lib.hid ?_⟩
              rw [HF.out, Cel.row_append, Cel.row_one, List.length_append]; exact hown2
            case measure => simp [intOf]; omega
        · have hcb : crossB L ya yb = false := by unfold crossB; rw [show decide (ya < L) = false from decide_eq_false (by omega), show decide (yb < L) = false from decide_eq_false (by omega)]; rfl
          rw [hcb] at hst
          simp only [Bool.false_eq_true, if_false, List.append_nil] at hst
          have HF := Lib.hid hst
          clear hst hcb
          have hd1 : decide (ya < L) = false := decide_eq_false (by omega)
          have hd2 : decide (yb < L) = false := decide_eq_false (by omega)
          generalize crossL L xs c = ys at *
          go_wp2_with fail
          go_region_held3 (fun q => q.cell? ⟨b, off + c * 2, none⟩ = some (.int .i64 ta) ∧ q.cell? ⟨b, off + c * 2 + 1, none⟩ = some (.int .i64 ya) ∧ q.cell? ⟨b, off + (c + 1) * 2, none⟩ = some (.int .i64 tb) ∧ q.cell? ⟨b, off + (c + 1) * 2 + 1, none⟩ = some (.int .i64 yb)) (simp [go_sem, *]) (fail)
          all_goals clear k1 k1'
          all_goals go_wp2
          all_goals
            go_roundw
            case rel =>
              refine ⟨c + 1, by omega, .inr (by omega), by go_num, by (repeat (first | exact Bel.refl _ | apply Bel.ext | apply Bel.alloc | apply Bel.drew | refine Bel.set ?_ (by first | (simp; done) | (simp [go_sem]; done) | omega) _)), Lib.hid ?_⟩
              rw [HF.out]; exact own_bel hown.out (by (repeat (first | exact Bel.refl _ | apply Bel.ext | apply Bel.alloc | apply Bel.drew | refine Bel.set ?_ (by first | (simp; done) | (simp [go_sem]; done) | omega) _)))
            case measure => simp [intOf]; omega
      · have hltz : ¬ (c : Int) + 1 < n := by omega
        have hce : c = n - 1 := by omega
        rw [← hce] at HR
        go_wp2
        rw [← HR.out]
        exact RetRow.mk' rfl (by (repeat (first | exact Bel.refl _ | apply Bel.ext | apply Bel.alloc | apply Bel.drew | refine Bel.set ?_ (by first | (simp; done) | (simp [go_sem]; done) | omega) _)) : Bel _ _) hown.out
  all_goals
    clear h1 h2
    go_enter Try.func69, Try.ntmps69
    go_wp2_with (first | (go_at_call 55; refine Calls.mono (HV.out _ (hu.bel ?_)) ?_; (focus (repeat (first | exact Bel.refl _ | apply Bel.ext | apply Bel.alloc | apply Bel.drew))); rintro ee ww ⟨rfl, _, rfl⟩) | (go_at_call 81; refine Calls.mono (HT.out _) ?_; rintro ee ww ⟨rfl, rfl⟩))
    rw [← HR.out]
    exact RetRow.mk' rfl (by (repeat (first | exact Bel.refl _ | apply Bel.ext | apply Bel.alloc | apply Bel.drew | refine Bel.set ?_ (by first | (simp; done) | (simp [go_sem]; done) | omega) _)) : Bel _ _) (World.ownsRow_nil _ _ _ _)
def levelI (xs : List (Int × Int)) (L : Int) : Int := if !curveB xs then 1 else if !magB L then 2 else 0
set_option maxHeartbeats 2000000 in
theorem l12Level_c (u : Value) (xs : List (Int × Int)) (L : Int) (w : World) (hu : Rd cel2 w u xs) :
    Calls Try.prog 66 #[u, .int .i64 L] w (Ret (.int .i64 (levelI xs L)) w) := by
  refine hide_ret fun v H => ?_
  have HV := Lib.hid (fun w hu => l08Ok_c u xs w hu)
  have HT := Lib.hid (fun w => l02Mag_c L w)
  unfold levelI at H
  rcases h1 : curveB xs with _ | _ <;> rcases h2 : magB L with _ | _ <;> simp only [h1, h2, Bool.not_true, Bool.not_false, if_true, if_false, Bool.false_eq_true] at H HV HT
  all_goals
    clear h1 h2
    go_enter Try.func66, Try.ntmps66
    go_wp2_with (first | (go_at_call 60; refine Calls.mono (HV.out _ (hu.bel ?_)) ?_; (focus (repeat (first | exact Bel.refl _ | apply Bel.ext | apply Bel.alloc | apply Bel.drew))); rintro ee ww ⟨rfl, _, rfl⟩) | (go_at_call 77; refine Calls.mono (HT.out _) ?_; rintro ee ww ⟨rfl, rfl⟩))
    go_ret
    refine Ret.mk ?_ (?_ : Bel _ _)
    · exact H.out
    · (repeat (first | exact Bel.refl _ | apply Bel.ext | apply Bel.alloc | apply Bel.drew | refine Bel.set ?_ (by first | (simp; done) | (simp [go_sem]; done) | omega) _))
set_option maxRecDepth 100000 in
set_option maxHeartbeats 8000000 in
theorem l12Cross_c (u : Value) (xs : List (Int × Int)) (L : Int) (hc : curveB xs = true) (hL : magB L = true) (w : World) (hu : Rd cel2 w u xs) :
    Calls Try.prog 67 #[u, .int .i64 L] w (RetRow 57 2 (fun v => v) (crossL L xs (xs.length - 1)).length (cel2.row (crossL L xs (xs.length - 1))) w) := by
  generalize hR : RetRow _ _ _ _ _ w = R
  have HR := Lib.hid hR
  clear hR
  obtain ⟨a, n, c0, rfl, hs⟩ := hu.sl
  have hcap := hs.le; have hmax := hs.cap
  unfold maxLen at hmax
  have HL := Lib.hid hs.len
  rw [← HL.out] at HR
  obtain ⟨l1, l2⟩ := magB_iff.1 hL
  have hlen := curve_len hc
  rw [← HL.out] at hlen
  have HC := Lib.hid hc
  clear hc hL
  go_enter Try.func67, Try.ntmps67
  go_wp2
  go_loopw [5, 6] (fun o i wr => ∃ c : Nat, c ≤ n ∧ (c = 0 ∨ c + 1 ≤ n) ∧ i = .int .i64 (c : Int) ∧ Bel w wr ∧ Hid (wr.ownsRow w.heap.size 57 2 o (crossL L xs c).length (cel2.row (crossL L xs c)))) (fun _ i _ => n + 1 - (intOf i).toNat)
  case atStart => exact ⟨0, Nat.zero_le _, .inl rfl, rfl, by (repeat (first | exact Bel.refl _ | apply Bel.ext | apply Bel.alloc | apply Bel.drew | refine Bel.set ?_ (by first | (simp; done) | (simp [go_sem]; done) | omega) _)), Lib.hid (by refine own_empty _ _ _ _ ?_; exact bel_size (by (repeat (first | exact Bel.refl _ | apply Bel.ext | apply Bel.alloc | apply Bel.drew | refine Bel.set ?_ (by first | (simp; done) | (simp [go_sem]; done) | omega) _))))⟩
  case round =>
    obtain ⟨c, hc1, hc2, rfl, hbel, hown⟩ := hrel
    obtain ⟨g, rfl⟩ := ext_ex hbel
    by_cases hlt : c + 1 < n
    · have hltz : (c : Int) + 1 < n := by omega
      have z1 : (0 : Int) ≤ (c : Int) := by omega
      have z2 : (c : Int) < n := by omega
      have z3 : (0 : Int) ≤ (c : Int) + 1 := by omega
      obtain ⟨b, off, rfl, hb⟩ := hs.base hlt
      obtain ⟨ta, ya, hx, ha0, ha1⟩ := hs.at2 (k := c) (by omega)
      obtain ⟨tb, yb, hy, hb0, hb1⟩ := hs.at2 hlt
      have q1 := curve_get HC.out hx.out
      have q2 := curve_get HC.out hy.out
      have q3 := curve_lt HC.out (Nat.lt_succ_self c) hx.out hy.out
      simp only at q1 q2 q3
      obtain ⟨t1, t2, y1, y2⟩ := q1
      obtain ⟨t3, t4, y3, y4⟩ := q2
      have hst := crossL_step L hx.out hy.out
      have hfl := crossL_len L xs c
      have k2 : ((c : Int) + 1).toNat = c + 1 := by omega
      by_cases hcb : crossB L ya yb = true
      · have hbd := cross_bd l1 l2 t1 t2 y1 y2 q3 t4 y3 y4 hcb
        obtain ⟨n1, n2, d1, d2⟩ := hbd
        rw [if_pos hcb] at hst
        have HF := Lib.hid hst
        have hcase : (ya < L ∧ L ≤ yb) ∨ (L ≤ ya ∧ yb < L) := by
          unfold crossB at hcb
          simp only [bne_iff_ne, ne_eq, decide_eq_decide] at hcb
          omega
        unfold crossN at n1 n2
        unfold crossD at d1 d2
        have e1 := absI_nonneg (ya - L)
        have e2 : absI (ya - L) ≤ 22000 := by unfold absI; split <;> omega
        obtain ⟨m1, m2⟩ := mul_in2 (A := 10000000) (B := 22000) t1 t2 (show 0 ≤ absI (yb - ya) by omega) d2
        obtain ⟨m3, m4⟩ := mul_in2 (A := 10000000) (B := 22000) (show 0 ≤ tb - ta by omega) (by omega) e1 e2
        have vv0 : IntKind.i64.wrap ((c : Int) + 1) = (c : Int) + 1 := IntWalk.i64_in _ (by omega)
        have vv1 : IntKind.i64.wrap (yb - L - (ya - L)) = yb - ya := by rw [show yb - L - (ya - L) = yb - ya by omega]; exact IntWalk.i64_in _ (by omega)
        have vv2 : IntKind.i64.wrap (ta * absI (yb - ya)) = ta * absI (yb - ya) := IntWalk.i64_in _ (by omega)
        have vv3 : IntKind.i64.wrap (tb - ta) = tb - ta := IntWalk.i64_in _ (by omega)
        have vv4 : IntKind.i64.wrap ((tb - ta) * absI (ya - L)) = (tb - ta) * absI (ya - L) := IntWalk.i64_in _ (by omega)
        have vv5 : IntKind.i64.wrap (ta * absI (yb - ya) + (tb - ta) * absI (ya - L)) = ta * absI (yb - ya) + (tb - ta) * absI (ya - L) := IntWalk.i64_in _ (by omega)
        clear hst hcb
        generalize crossL L xs c = ys at *
        rcases hcase with ⟨hA, hB⟩ | ⟨hA, hB⟩
        · have s1 : ya - L < 0 := by omega
          have s2 : 0 ≤ yb - L := by omega
          have s3 : decide (ya - L < 0) = true := decide_eq_true s1
          have s4 : decide (0 ≤ yb - L) = true := decide_eq_true s2
          go_wp2_with fail
          go_region_held3 (fun q => q.cell? ⟨b, off + c * 2, none⟩ = some (.int .i64 ta) ∧ q.cell? ⟨b, off + (c + 1) * 2, none⟩ = some (.int .i64 tb)) (simp [go_sem, *]) (first | (refine step_append_new (by rfl) (.tmp 46) (.tmp 78) 44 57 2 16 (by rfl) appFraction2 (by decide) w _ _ _ 1 [.int .i64 (fracN (ta * absI (yb - ya) + (tb - ta) * absI (ya - L)) (absI (yb - ya))), .int .i64 (fracD (ta * absI (yb - ya) + (tb - ta) * absI (ya - L)) (absI (yb - ya)))] (by rfl) _ (by rfl) (by rfl) (by intro u hu; simp at hu; first | (subst hu; rfl) | (rcases hu with rfl | rfl <;> rfl) | (rcases hu with rfl | rfl | rfl <;> rfl)) (by intro j u hu; rcases j with _ | _ | _ | j <;> simp at hu <;> subst hu <;> simp [go_sem]) (own_bel hown.out ?_) ?_ (by omega) (by omega) ?_; (focus (repeat (first | exact Bel.refl _ | apply Bel.ext | apply Bel.alloc | apply Bel.drew))); (focus (repeat (first | exact Bel.refl _ | apply Bel.ext | apply Bel.alloc | apply Bel.drew))); intro v2 g2 hown2 hgr2) | (go_at_call 74; refine Calls.mono (l02Size_c _ (by omega) _) ?_; rintro ee ww ⟨rfl, rfl⟩) | (go_at_call 68; refine (l02Make_c _ _ (by omega) (by omega) (by omega) (by omega) _).mono ?_; rintro ee ww ⟨rfl, _, rfl⟩))
          all_goals clear vv0 vv1 vv2 vv3 vv4 vv5
          all_goals go_wp2
          all_goals
            go_roundw
            case rel =>
              refine ⟨c + 1, by omega, .inr (by omega), by go_num, by (repeat (first | exact Bel.refl _ | apply Bel.ext | apply Bel.alloc | apply Bel.drew | refine Bel.set ?_ (by first | (simp; done) | (simp [go_sem]; done) | omega) _)), Lib.hid ?_⟩
              rw [HF.out, Cel.row_append, Cel.row_one, List.length_append]; exact hown2
            case measure => simp [intOf]; omega
        · have s1 : ¬ ya - L < 0 := by omega
          have s1' : 0 ≤ ya - L := by omega
          have s2 : yb - L < 0 := by omega
          have s3 : decide (ya - L < 0) = false := decide_eq_false s1
          have s4 : decide (0 ≤ ya - L) = true := decide_eq_true s1'
          have s5 : decide (yb - L < 0) = true := decide_eq_true s2
          go_wp2_with fail
          go_region_held3 (fun q => q.cell? ⟨b, off + c * 2, none⟩ = some (.int .i64 ta) ∧ q.cell? ⟨b, off + (c + 1) * 2, none⟩ = some (.int .i64 tb)) (simp [go_sem, *]) (first | (refine step_append_new (by rfl) (.tmp 46) (.tmp 78) 44 57 2 16 (by rfl) appFraction2 (by decide) w _ _ _ 1 [.int .i64 (fracN (ta * absI (yb - ya) + (tb - ta) * absI (ya - L)) (absI (yb - ya))), .int .i64 (fracD (ta * absI (yb - ya) + (tb - ta) * absI (ya - L)) (absI (yb - ya)))] (by rfl) _ (by rfl) (by rfl) (by intro u hu; simp at hu; first | (subst hu; rfl) | (rcases hu with rfl | rfl <;> rfl) | (rcases hu with rfl | rfl | rfl <;> rfl)) (by intro j u hu; rcases j with _ | _ | _ | j <;> simp at hu <;> subst hu <;> simp [go_sem]) (own_bel hown.out ?_) ?_ (by omega) (by omega) ?_; (focus (repeat (first | exact Bel.refl _ | apply Bel.ext | apply Bel.alloc | apply Bel.drew))); (focus (repeat (first | exact Bel.refl _ | apply Bel.ext | apply Bel.alloc | apply Bel.drew))); intro v2 g2 hown2 hgr2) | (go_at_call 74; refine Calls.mono (l02Size_c _ (by omega) _) ?_; rintro ee ww ⟨rfl, rfl⟩) | (go_at_call 68; refine (l02Make_c _ _ (by omega) (by omega) (by omega) (by omega) _).mono ?_; rintro ee ww ⟨rfl, _, rfl⟩))
          all_goals clear vv0 vv1 vv2 vv3 vv4 vv5
          all_goals go_wp2
          all_goals
            go_roundw
            case rel =>
              refine ⟨c + 1, by omega, .inr (by omega), by go_num, by (repeat (first | exact Bel.refl _ | apply Bel.ext | apply Bel.alloc | apply Bel.drew | refine Bel.set ?_ (by first | (simp; done) | (simp [go_sem]; done) | omega) _)), Lib.hid ?_⟩
              rw [HF.out, Cel.row_append, Cel.row_one, List.length_append]; exact hown2
            case measure => simp [intOf]; omega
      · rw [if_neg hcb, List.append_nil] at hst
        have HF := Lib.hid hst
        have hcase : (ya < L ∧ yb < L) ∨ (L ≤ ya ∧ L ≤ yb) := by
          unfold crossB at hcb
          simp only [bne_iff_ne, ne_eq, decide_eq_decide] at hcb
          omega
        clear hst hcb
        generalize crossL L xs c = ys at *
        rcases hcase with ⟨hA, hB⟩ | ⟨hA, hB⟩
        · have s1 : ya - L < 0 := by omega
          have s2 : ¬ 0 ≤ yb - L := by omega
          have s2' : yb - L < 0 := by omega
          have s3 : decide (ya - L < 0) = true := decide_eq_true s1
          have s4 : decide (0 ≤ yb - L) = false := decide_eq_false s2
          have s5 : decide (0 ≤ ya - L) = false := decide_eq_false (by omega)
          go_wp2
          go_roundw
          case rel =>
            refine ⟨c + 1, by omega, .inr (by omega), by go_num, by (repeat (first | exact Bel.refl _ | apply Bel.ext | apply Bel.alloc | apply Bel.drew | refine Bel.set ?_ (by first | (simp; done) | (simp [go_sem]; done) | omega) _)), Lib.hid ?_⟩
            rw [HF.out]; exact own_bel hown.out (by (repeat (first | exact Bel.refl _ | apply Bel.ext | apply Bel.alloc | apply Bel.drew | refine Bel.set ?_ (by first | (simp; done) | (simp [go_sem]; done) | omega) _)))
          case measure => simp [intOf]; omega
        · have s1 : ¬ ya - L < 0 := by omega
          have s1' : 0 ≤ ya - L := by omega
          have s2 : ¬ yb - L < 0 := by omega
          have s3 : decide (ya - L < 0) = false := decide_eq_false s1
          have s4 : decide (0 ≤ ya - L) = true := decide_eq_true s1'
          have s5 : decide (yb - L < 0) = false := decide_eq_false s2
          go_wp2
          go_roundw
          case rel =>
            refine ⟨c + 1, by omega, .inr (by omega), by go_num, by (repeat (first | exact Bel.refl _ | apply Bel.ext | apply Bel.alloc | apply Bel.drew | refine Bel.set ?_ (by first | (simp; done) | (simp [go_sem]; done) | omega) _)), Lib.hid ?_⟩
            rw [HF.out]; exact own_bel hown.out (by (repeat (first | exact Bel.refl _ | apply Bel.ext | apply Bel.alloc | apply Bel.drew | refine Bel.set ?_ (by first | (simp; done) | (simp [go_sem]; done) | omega) _)))
          case measure => simp [intOf]; omega
    · have hltz : ¬ (c : Int) + 1 < n := by omega
      have hce : c = n - 1 := by omega
      rw [← hce] at HR
      go_wp2
      rw [← HR.out]
      exact RetRow.mk' rfl (by (repeat (first | exact Bel.refl _ | apply Bel.ext | apply Bel.alloc | apply Bel.drew | refine Bel.set ?_ (by first | (simp; done) | (simp [go_sem]; done) | omega) _)) : Bel _ _) hown.out
end Go.Proofs.Ytknlkljflibjbaa
