/- The numbers of periods that fit between two times: what both functions return. -/
import Derived.Test.YtlnpfggcmjljbaaBase
import Derived.Test.YtlnpfggcmjljbaaRow
import Derived.Test.YtlnpfggcmjljbaaRowInt
namespace Go.Proofs.Ytlnpfggcmjljbaa
open Go.RowKit

def spanI (p : Int) (n : Nat) : List Int := (List.range n).map fun (i : Nat) => p + (i : Int)
theorem spanI_len (p : Int) (n : Nat) : (spanI p n).length = n := by simp [spanI]
theorem spanI_succ (p : Int) (n : Nat) : spanI p (n + 1) = spanI p n ++ [p + n] := by simp [spanI, List.range_succ]
def countsB (a b l h : Int) : Bool := timeB a && timeB b && decide (a < b) && decide (1 ≤ l) && decide (l ≤ h) && decide (h ≤ 1000000)
theorem countsB_iff {a b l h : Int} : countsB a b l h = true ↔ 0 ≤ a ∧ a ≤ 10000000 ∧ 0 ≤ b ∧ b ≤ 10000000 ∧ a < b ∧ 1 ≤ l ∧ l ≤ h ∧ h ≤ 1000000 := by simp [countsB, timeB_iff, and_assoc]
/-- the least and the greatest number -/
def cLo (a b h : Int) : Int := -(-(b - a) / h)
def cHi (a b l : Int) : Int := (b - a) / l
def cN (a b l h : Int) : Nat := (cHi a b l - cLo a b h + 1).toNat
def countsI (a b l h : Int) : List Int × Int :=
  if !countsB a b l h then ([], 2) else if cHi a b l - cLo a b h + 1 > 200 then ([], 5) else (spanI (cLo a b h) (cN a b l h), 0)
theorem countsI_len (a b l h : Int) : (countsI a b l h).1.length ≤ 200 := by
  unfold countsI; split <;> (try split) <;> simp [spanI_len, cN]; omega
theorem cLo_bd {a b l h : Int} (hb : countsB a b l h = true) : 1 ≤ cLo a b h ∧ cLo a b h ≤ 10000000 := by
  obtain ⟨h1, h2, h3, h4, h5, h6, h7, h8⟩ := countsB_iff.1 hb
  unfold cLo
  have hh : 0 < h := by omega
  have k1 : -(b - a) / h ≤ -1 := by
    have : -(b - a) / h < 0 := Int.ediv_neg_of_neg_of_pos (by omega) hh
    omega
  have k2 : -(10000000) ≤ -(b - a) / h := by
    rw [Int.le_ediv_iff_mul_le hh]
    have := Int.mul_le_mul_of_nonneg_left (show (1 : Int) ≤ h by omega) (show (0 : Int) ≤ 10000000 by omega)
    omega
  omega
theorem cHi_bd {a b l h : Int} (hb : countsB a b l h = true) : 0 ≤ cHi a b l ∧ cHi a b l ≤ 10000000 := by
  obtain ⟨h1, h2, h3, h4, h5, h6, h7, h8⟩ := countsB_iff.1 hb
  unfold cHi
  have hl : 0 < l := by omega
  refine ⟨Int.ediv_nonneg (by omega) (by omega), ?_⟩
  have : (b - a) / l ≤ (b - a) / 1 := by
    rw [Int.ediv_one]; exact Int.ediv_le_self _ (by omega)
  omega
theorem cUp {d h : Int} (h1 : 0 ≤ d) (h2 : 0 < h) : (d + h - 1) / h = -(-d / h) := by
  have e1 := Int.emod_add_mul_ediv (d + h - 1) h
  have e2 := Int.emod_add_mul_ediv (-d) h
  have b1 := Int.emod_nonneg (d + h - 1) (Int.ne_of_gt h2)
  have b2 := Int.emod_lt_of_pos (d + h - 1) h2
  have b3 := Int.emod_nonneg (-d) (Int.ne_of_gt h2)
  have b4 := Int.emod_lt_of_pos (-d) h2
  generalize (d + h - 1) / h = x at *
  generalize (-d) / h = y at *
  generalize (d + h - 1) % h = r at *
  generalize (-d) % h = s at *
  have e3 : h * (x + y) = h - 1 - r - s := by rw [Int.mul_add]; omega
  have k1 : h * (x + y) < h * 1 := by omega
  have k2 : h * (-1) < h * (x + y) := by omega
  have := Int.lt_of_mul_lt_mul_left k1 (Int.le_of_lt h2)
  have := Int.lt_of_mul_lt_mul_left k2 (Int.le_of_lt h2)
  omega
theorem appI : AppF Try.prog 32 2 1 8 := appF_of (z := .int .i64 0) Try.underlying32 (by kernel_rfl) rfl
set_option maxHeartbeats 1000000 in
theorem ceilDiv_c (a b : Int) (h1 : 0 ≤ a) (h2 : a ≤ 8000000000000000) (h3 : 0 < b) (w : World) :
    Calls Try.prog 54 #[.int .i64 a, .int .i64 b] w (Ret (.int .i64 (-(-a / b))) w) := by
  refine hide_ret fun v H => ?_
  have k1 : -a / b ≤ 0 := Int.ediv_nonpos_of_nonpos_of_neg (by omega) (by omega)
  have k2 : -8000000000000000 ≤ -a / b := by
    rw [Int.le_ediv_iff_mul_le h3]
    have := Int.mul_le_mul_of_nonneg_left (show (1 : Int) ≤ b by omega) (show (0 : Int) ≤ 8000000000000000 by omega)
    omega
  go_enter Try.func54, Try.ntmps54
  go_wp2_with (first | (go_at_call 76; refine (floorDiv_c _ _ (by omega) (by omega) (by omega) _).mono ?_; rintro ee ww ⟨rfl, rfl⟩))
  all_goals (try ((refine region_ext (by kernel_rfl) (by kernel_rfl) ?_; (repeat (go_big_quiet_step (first | (go_at_call 76; exact Calls.in_same (floorDiv_c _ _ (by omega) (by omega) (by omega) _))))); refine wpQuiet_nil ?_; rintro _ ⟨_, rfl⟩); go_wp2_with (first | (go_at_call 76; refine (floorDiv_c _ _ (by omega) (by omega) (by omega) _).mono ?_; rintro ee ww ⟨rfl, rfl⟩))))
  go_ret
  refine Ret.mk ?_ (?_ : Bel _ _)
  · exact H.out
  · (repeat (first | exact Bel.refl _ | apply Bel.ext | apply Bel.alloc | apply Bel.drew | refine Bel.set ?_ (by first | (simp; done) | (simp [go_sem]; done) | omega) _))
set_option maxHeartbeats 2000000 in
theorem CountsBetween_c (a b l h : Int) (w : World) :
    Calls Try.prog 21 #[.int .i64 a, .int .i64 b, .int .i64 l, .int .i64 h] w (RetRow 2 1 (fun v => .tuple #[v, .int .i64 (countsI a b l h).2]) (countsI a b l h).1.length (celI.row (countsI a b l h).1) w) := by
  generalize hR : RetRow _ _ _ _ _ w = R
  have HR := Lib.hid hR
  clear hR
  rcases hB : countsB a b l h with _ | _
  · simp only [countsI, hB, Bool.not_true, Bool.not_false, Bool.true_or, Bool.or_true, Bool.false_or, Bool.or_false, Bool.true_and, Bool.and_true, Bool.false_and, Bool.and_false, if_true, if_false, Bool.false_eq_true] at HR
    have hq : timeB a = false ∨ timeB b = false ∨ ¬ a < b ∨ l < 1 ∨ h < l ∨ 1000000 < h := by
      rcases h1 : timeB a with _ | _ <;> rcases h2 : timeB b with _ | _ <;> simp [countsB, h1, h2] at hB ⊢ <;> omega
    rcases h1 : timeB a with _ | _ <;> rcases h2 : timeB b with _ | _ <;> by_cases h3 : a < b <;> by_cases h4 : l < 1 <;> by_cases h5 : h < l <;> by_cases h6 : 1000000 < h
    all_goals first
      | (exfalso; simp_all; done)
      | (have h3' : decide (b ≤ a) = !decide (a < b) := by rw [Bool.eq_iff_iff]; simp
         clear hq hB
         go_enter Try.func21, Try.ntmps21
         go_wp2_with (first | (go_at_call 53; refine (ValidTime_c _ _).mono ?_; rintro ee ww ⟨rfl, rfl⟩))
         rw [← HR.out]
         exact RetRow.mk' rfl (by (repeat (first | exact Bel.refl _ | apply Bel.ext | apply Bel.alloc | apply Bel.drew | refine Bel.set ?_ (by first | (simp; done) | (simp [go_sem]; done) | omega) _)) : Bel _ _) (World.ownsRow_nil _ _ _ _))
  · obtain ⟨h1, h2, h3, h4, h5, h6, h7, h8⟩ := countsB_iff.1 hB
    obtain ⟨q1, q2⟩ := cLo_bd hB
    obtain ⟨q3, q4⟩ := cHi_bd hB
    have t1 : timeB a = true := timeB_iff.2 ⟨h1, h2⟩
    have t2 : timeB b = true := timeB_iff.2 ⟨h3, h4⟩
    have hd : (b - a).tdiv l = (b - a) / l := Int.tdiv_eq_ediv_of_nonneg (by omega)
    have q3' : 0 ≤ (b - a).tdiv l := by rw [hd]; exact q3
    have q4' : (b - a).tdiv l ≤ 10000000 := by rw [hd]; exact q4
    have HD := Lib.hid hd
    unfold cLo at q1 q2
    clear hd q3 q4
    by_cases hg : cHi a b l - cLo a b h + 1 > 200
    · simp only [countsI, hB, Bool.not_true, Bool.not_false, Bool.true_or, Bool.or_true, Bool.false_or, Bool.or_false, Bool.true_and, Bool.and_true, Bool.false_and, Bool.and_false, if_true, if_false, Bool.false_eq_true, if_pos hg] at HR
      have hg' : 200 < (b - a).tdiv l - -(-(b - a) / h) + 1 := by rw [HD.out]; exact hg
      clear hg hB
      go_enter Try.func21, Try.ntmps21
      go_wp2_with (first | (go_at_call 53; refine (ValidTime_c _ _).mono ?_; rintro ee ww ⟨rfl, rfl⟩) | (go_at_call 54; refine (ceilDiv_c _ _ (by omega) (by omega) (by omega) _).mono ?_; rintro ee ww ⟨rfl, _, rfl⟩))
      all_goals (try ((refine region_ext (by kernel_rfl) (by kernel_rfl) ?_; (repeat (go_big_quiet_step (first | (go_at_call 53; exact Calls.in_same (ValidTime_c _ _)) | (go_at_call 54; exact Calls.in_ret (ceilDiv_c _ _ (by omega) (by omega) (by omega) _))))); refine wpQuiet_nil ?_; rintro _ ⟨_, rfl⟩); go_wp2_with (first | (go_at_call 53; refine (ValidTime_c _ _).mono ?_; rintro ee ww ⟨rfl, rfl⟩) | (go_at_call 54; refine (ceilDiv_c _ _ (by omega) (by omega) (by omega) _).mono ?_; rintro ee ww ⟨rfl, _, rfl⟩))))
      rw [← HR.out]
      exact RetRow.mk' rfl (by (repeat (first | exact Bel.refl _ | apply Bel.ext | apply Bel.alloc | apply Bel.drew | refine Bel.set ?_ (by first | (simp; done) | (simp [go_sem]; done) | omega) _)) : Bel _ _) (World.ownsRow_nil _ _ _ _)
    · simp only [countsI, hB, Bool.not_true, Bool.not_false, Bool.true_or, Bool.or_true, Bool.false_or, Bool.or_false, Bool.true_and, Bool.and_true, Bool.false_and, Bool.and_false, if_true, if_false, Bool.false_eq_true, if_neg hg, spanI_len] at HR
      have hg' : ¬ 200 < (b - a).tdiv l - -(-(b - a) / h) + 1 := by rw [HD.out]; exact hg
      have hN : cN a b l h = ((b - a).tdiv l - -(-(b - a) / h) + 1).toNat := by rw [HD.out]; rfl
      have hL : cLo a b h = -(-(b - a) / h) := rfl
      rw [hN, hL] at HR
      clear hg hB hN hL HD
      go_enter Try.func21, Try.ntmps21
      go_wp2_with (first | (go_at_call 53; refine (ValidTime_c _ _).mono ?_; rintro ee ww ⟨rfl, rfl⟩) | (go_at_call 54; refine (ceilDiv_c _ _ (by omega) (by omega) (by omega) _).mono ?_; rintro ee ww ⟨rfl, _, rfl⟩))
      all_goals (try ((refine region_ext (by kernel_rfl) (by kernel_rfl) ?_; (repeat (go_big_quiet_step (first | (go_at_call 53; exact Calls.in_same (ValidTime_c _ _)) | (go_at_call 54; exact Calls.in_ret (ceilDiv_c _ _ (by omega) (by omega) (by omega) _))))); refine wpQuiet_nil ?_; rintro _ ⟨_, rfl⟩); go_wp2_with (first | (go_at_call 53; refine (ValidTime_c _ _).mono ?_; rintro ee ww ⟨rfl, rfl⟩) | (go_at_call 54; refine (ceilDiv_c _ _ (by omega) (by omega) (by omega) _).mono ?_; rintro ee ww ⟨rfl, _, rfl⟩))))
      generalize (b - a).tdiv l = hi at *
      generalize -(-(b - a) / h) = lo at *
      go_loopw [12, 13] (fun o i wr => ∃ k : Nat, (k : Int) ≤ (hi - lo + 1).toNat ∧ i = .int .i64 (lo + k) ∧ Bel w wr ∧ Hid (wr.ownsRow w.heap.size 2 1 o k (celI.row (spanI lo k)))) (fun _ i _ => (hi - lo + 1).toNat - (intOf i - lo).toNat)
      case atStart => exact ⟨0, by omega, by go_num, by (repeat (first | exact Bel.refl _ | apply Bel.ext | apply Bel.alloc | apply Bel.drew | refine Bel.set ?_ (by first | (simp; done) | (simp [go_sem]; done) | omega) _)), Lib.hid (by refine own_empty _ _ _ _ ?_; exact (by (repeat (first | exact Bel.refl _ | apply Bel.ext | apply Bel.alloc | apply Bel.drew | refine Bel.set ?_ (by first | (simp; done) | (simp [go_sem]; done) | omega) _)) : Bel w _).size)⟩
      case round =>
        obtain ⟨k, hk, rfl, hbel, hown⟩ := hrel
        obtain ⟨g, rfl⟩ := ext_ex hbel
        by_cases hlt : lo + k ≤ hi
        · go_wp2_with (first | (at_builtin; refine wpList_append_new rfl (.tmp 62) (.tmp 64) 32 2 1 8 rfl appI (by decide) w _ _ _ 1 [.int .i64 (lo + k)] rfl (by first | with_reducible rfl | (simp [go_sem]; done)) rfl (by intro u hu; simp at hu; first | (subst hu; rfl) | (rcases hu with rfl | rfl <;> rfl) | (rcases hu with rfl | rfl | rfl <;> rfl)) (own_bel hown.out ?_) ?_ (by omega) (by omega) ?_; (focus (repeat (first | exact Bel.refl _ | apply Bel.ext | apply Bel.alloc | apply Bel.drew))); (focus (repeat (first | exact Bel.refl _ | apply Bel.ext | apply Bel.alloc | apply Bel.drew))); intro v2 g2 hown2 hgr2))
          go_roundw
          case rel =>
            refine ⟨k + 1, by omega, by go_num, by (repeat (first | exact Bel.refl _ | apply Bel.ext | apply Bel.alloc | apply Bel.drew | refine Bel.set ?_ (by first | (simp; done) | (simp [go_sem]; done) | omega) _)), Lib.hid ?_⟩
            rw [spanI_succ, Cel.row_append, Cel.row_one]; exact hown2
          case measure => simp [intOf]; omega
        · go_wp2
          have hk' : k = (hi - lo + 1).toNat := by omega
          subst hk'
          rw [← HR.out]
          exact RetRow.mk' rfl (by (repeat (first | exact Bel.refl _ | apply Bel.ext | apply Bel.alloc | apply Bel.drew | refine Bel.set ?_ (by first | (simp; done) | (simp [go_sem]; done) | omega) _)) : Bel _ _) hown.out
set_option maxHeartbeats 2000000 in
theorem sCountsBetween_c (a b l h : Int) (w : World) :
    Calls Try.prog 24 #[.int .i64 a, .int .i64 b, .int .i64 l, .int .i64 h] w (RetRow 2 1 (fun v => .tuple #[v, .int .i64 (countsI a b l h).2]) (countsI a b l h).1.length (celI.row (countsI a b l h).1) w) := by
  generalize hR : RetRow _ _ _ _ _ w = R
  have HR := Lib.hid hR
  clear hR
  rcases hB : countsB a b l h with _ | _
  · simp only [countsI, hB, Bool.not_true, Bool.not_false, Bool.true_or, Bool.or_true, Bool.false_or, Bool.or_false, Bool.true_and, Bool.and_true, Bool.false_and, Bool.and_false, if_true, if_false, Bool.false_eq_true] at HR
    have hq : timeB a = false ∨ timeB b = false ∨ ¬ a < b ∨ inB l 1 1000000 = false ∨ inB h l 1000000 = false := by
      rcases h1 : timeB a with _ | _ <;> rcases h2 : timeB b with _ | _ <;> rcases h4 : inB l 1 1000000 with _ | _ <;> rcases h5 : inB h l 1000000 with _ | _ <;> simp [countsB, h1, h2] at hB ⊢
      simp only [inB_iff] at h4 h5; omega
    rcases h1 : timeB a with _ | _ <;> rcases h2 : timeB b with _ | _ <;> by_cases h3 : a < b <;> rcases h4 : inB l 1 1000000 with _ | _ <;> rcases h5 : inB h l 1000000 with _ | _
    all_goals first
      | (exfalso; simp_all; done)
      | (have h3' : decide (b ≤ a) = !decide (a < b) := by rw [Bool.eq_iff_iff]; simp
         clear hq hB
         go_enter Try.func24, Try.ntmps24
         go_wp2_with (first | (go_at_call 56; refine (l06Time_c _ _).mono ?_; rintro ee ww ⟨rfl, rfl⟩) | (go_at_call 57; refine (l09Period_c _ _).mono ?_; rintro ee ww ⟨rfl, rfl⟩) | (go_at_call 58; refine (l00In_c _ _ _ _).mono ?_; rintro ee ww ⟨rfl, rfl⟩))
         rw [← HR.out]
         exact RetRow.mk' rfl (by (repeat (first | exact Bel.refl _ | apply Bel.ext | apply Bel.alloc | apply Bel.drew | refine Bel.set ?_ (by first | (simp; done) | (simp [go_sem]; done) | omega) _)) : Bel _ _) (World.ownsRow_nil _ _ _ _))
  · obtain ⟨h1, h2, h3, h4, h5, h6, h7, h8⟩ := countsB_iff.1 hB
    obtain ⟨q1, q2⟩ := cLo_bd hB
    obtain ⟨q3, q4⟩ := cHi_bd hB
    have t1 : timeB a = true := timeB_iff.2 ⟨h1, h2⟩
    have t2 : timeB b = true := timeB_iff.2 ⟨h3, h4⟩
    have hd : (b - a).tdiv l = (b - a) / l := Int.tdiv_eq_ediv_of_nonneg (by omega)
    have q3' : 0 ≤ (b - a).tdiv l := by rw [hd]; exact q3
    have q4' : (b - a).tdiv l ≤ 10000000 := by rw [hd]; exact q4
    have t3 : inB l 1 1000000 = true := inB_iff.2 ⟨by omega, by omega⟩
    have t4 : inB h l 1000000 = true := inB_iff.2 ⟨by omega, by omega⟩
    have hc : (b - a + h - 1).tdiv h = -(-(b - a) / h) := by rw [Int.tdiv_eq_ediv_of_nonneg (by omega)]; exact cUp (by omega) (by omega)
    rw [show cLo a b h = (b - a + h - 1).tdiv h from hc.symm] at q1 q2
    have HC := Lib.hid hc
    clear hc
    have HD := Lib.hid hd
    clear hd q3 q4
    by_cases hg : cHi a b l - cLo a b h + 1 > 200
    · simp only [countsI, hB, Bool.not_true, Bool.not_false, Bool.true_or, Bool.or_true, Bool.false_or, Bool.or_false, Bool.true_and, Bool.and_true, Bool.false_and, Bool.and_false, if_true, if_false, Bool.false_eq_true, if_pos hg] at HR
      have hg' : 200 < (b - a).tdiv l - (b - a + h - 1).tdiv h + 1 := by rw [HD.out, HC.out]; exact hg
      clear hg hB
      go_enter Try.func24, Try.ntmps24
      go_wp2_with (first | (go_at_call 56; refine (l06Time_c _ _).mono ?_; rintro ee ww ⟨rfl, rfl⟩) | (go_at_call 57; refine (l09Period_c _ _).mono ?_; rintro ee ww ⟨rfl, rfl⟩) | (go_at_call 58; refine (l00In_c _ _ _ _).mono ?_; rintro ee ww ⟨rfl, rfl⟩))
      all_goals (try ((refine region_ext (by kernel_rfl) (by kernel_rfl) ?_; (repeat (go_big_quiet_step (first | (go_at_call 56; exact Calls.in_same (l06Time_c _ _)) | (go_at_call 57; exact Calls.in_same (l09Period_c _ _)) | (go_at_call 58; exact Calls.in_same (l00In_c _ _ _ _))))); refine wpQuiet_nil ?_; rintro _ ⟨_, rfl⟩); go_wp2_with (first | (go_at_call 56; refine (l06Time_c _ _).mono ?_; rintro ee ww ⟨rfl, rfl⟩) | (go_at_call 57; refine (l09Period_c _ _).mono ?_; rintro ee ww ⟨rfl, rfl⟩) | (go_at_call 58; refine (l00In_c _ _ _ _).mono ?_; rintro ee ww ⟨rfl, rfl⟩))))
      rw [← HR.out]
      exact RetRow.mk' rfl (by (repeat (first | exact Bel.refl _ | apply Bel.ext | apply Bel.alloc | apply Bel.drew | refine Bel.set ?_ (by first | (simp; done) | (simp [go_sem]; done) | omega) _)) : Bel _ _) (World.ownsRow_nil _ _ _ _)
    · simp only [countsI, hB, Bool.not_true, Bool.not_false, Bool.true_or, Bool.or_true, Bool.false_or, Bool.or_false, Bool.true_and, Bool.and_true, Bool.false_and, Bool.and_false, if_true, if_false, Bool.false_eq_true, if_neg hg, spanI_len] at HR
      have hg' : ¬ 200 < (b - a).tdiv l - (b - a + h - 1).tdiv h + 1 := by rw [HD.out, HC.out]; exact hg
      have hN : cN a b l h = ((b - a).tdiv l - (b - a + h - 1).tdiv h + 1).toNat := by rw [HD.out, HC.out]; rfl
      have hL : cLo a b h = (b - a + h - 1).tdiv h := HC.out.symm
      rw [hN, hL] at HR
      clear hg hB hN hL HD HC
      go_enter Try.func24, Try.ntmps24
      go_wp2_with (first | (go_at_call 56; refine (l06Time_c _ _).mono ?_; rintro ee ww ⟨rfl, rfl⟩) | (go_at_call 57; refine (l09Period_c _ _).mono ?_; rintro ee ww ⟨rfl, rfl⟩) | (go_at_call 58; refine (l00In_c _ _ _ _).mono ?_; rintro ee ww ⟨rfl, rfl⟩))
      all_goals (try ((refine region_ext (by kernel_rfl) (by kernel_rfl) ?_; (repeat (go_big_quiet_step (first | (go_at_call 56; exact Calls.in_same (l06Time_c _ _)) | (go_at_call 57; exact Calls.in_same (l09Period_c _ _)) | (go_at_call 58; exact Calls.in_same (l00In_c _ _ _ _))))); refine wpQuiet_nil ?_; rintro _ ⟨_, rfl⟩); go_wp2_with (first | (go_at_call 56; refine (l06Time_c _ _).mono ?_; rintro ee ww ⟨rfl, rfl⟩) | (go_at_call 57; refine (l09Period_c _ _).mono ?_; rintro ee ww ⟨rfl, rfl⟩) | (go_at_call 58; refine (l00In_c _ _ _ _).mono ?_; rintro ee ww ⟨rfl, rfl⟩))))
      generalize (b - a).tdiv l = hi at *
      generalize (b - a + h - 1).tdiv h = lo at *
      go_loopw [13, 14] (fun o i wr => ∃ k : Nat, (k : Int) ≤ (hi - lo + 1).toNat ∧ i = .int .i64 (lo + k) ∧ Bel w wr ∧ Hid (wr.ownsRow w.heap.size 2 1 o k (celI.row (spanI lo k)))) (fun _ i _ => (hi - lo + 1).toNat - (intOf i - lo).toNat)
      case atStart => exact ⟨0, by omega, by go_num, by (repeat (first | exact Bel.refl _ | apply Bel.ext | apply Bel.alloc | apply Bel.drew | refine Bel.set ?_ (by first | (simp; done) | (simp [go_sem]; done) | omega) _)), Lib.hid (by refine own_empty _ _ _ _ ?_; exact (by (repeat (first | exact Bel.refl _ | apply Bel.ext | apply Bel.alloc | apply Bel.drew | refine Bel.set ?_ (by first | (simp; done) | (simp [go_sem]; done) | omega) _)) : Bel w _).size)⟩
      case round =>
        obtain ⟨k, hk, rfl, hbel, hown⟩ := hrel
        obtain ⟨g, rfl⟩ := ext_ex hbel
        by_cases hlt : lo + k ≤ hi
        · go_wp2_with (first | (at_builtin; refine wpList_append_new rfl (.tmp 63) (.tmp 65) 32 2 1 8 rfl appI (by decide) w _ _ _ 1 [.int .i64 (lo + k)] rfl (by first | with_reducible rfl | (simp [go_sem]; done)) rfl (by intro u hu; simp at hu; first | (subst hu; rfl) | (rcases hu with rfl | rfl <;> rfl) | (rcases hu with rfl | rfl | rfl <;> rfl)) (own_bel hown.out ?_) ?_ (by omega) (by omega) ?_; (focus (repeat (first | exact Bel.refl _ | apply Bel.ext | apply Bel.alloc | apply Bel.drew))); (focus (repeat (first | exact Bel.refl _ | apply Bel.ext | apply Bel.alloc | apply Bel.drew))); intro v2 g2 hown2 hgr2))
          go_roundw
          case rel =>
            refine ⟨k + 1, by omega, by go_num, by (repeat (first | exact Bel.refl _ | apply Bel.ext | apply Bel.alloc | apply Bel.drew | refine Bel.set ?_ (by first | (simp; done) | (simp [go_sem]; done) | omega) _)), Lib.hid ?_⟩
            rw [spanI_succ, Cel.row_append, Cel.row_one]; exact hown2
          case measure => simp [intOf]; omega
        · go_wp2
          have hk' : k = (hi - lo + 1).toNat := by omega
          subst hk'
          rw [← HR.out]
          exact RetRow.mk' rfl (by (repeat (first | exact Bel.refl _ | apply Bel.ext | apply Bel.alloc | apply Bel.drew | refine Bel.set ?_ (by first | (simp; done) | (simp [go_sem]; done) | omega) _)) : Bel _ _) hown.out
end Go.Proofs.Ytlnpfggcmjljbaa
