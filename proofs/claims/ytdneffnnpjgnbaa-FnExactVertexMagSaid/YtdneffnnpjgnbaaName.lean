/- Names: what 'IsName' and its like return, in the program and in the reference. -/
import Derived.Test.YtdneffnnpjgnbaaBase
import Derived.Test.YtdneffnnpjgnbaaRow
namespace Go.Proofs.Ytdneffnnpjgnbaa
open Go.RowKit

theorem args_g1 {P : Program} {f : FuncId} {w : World} {Q : Ending → World → Prop} {v : Value} (u : Value) (_ : v = u) (c : Calls P f #[v] w Q) : Calls P f #[v] w Q := c
theorem args_g2 {P : Program} {f : FuncId} {w : World} {Q : Ending → World → Prop} {v x : Value} (u : Value) (_ : v = u) (c : Calls P f #[v, x] w Q) : Calls P f #[v, x] w Q := c
theorem args_g3 {P : Program} {f : FuncId} {w : World} {Q : Ending → World → Prop} {v x y : Value} (u : Value) (_ : v = u) (c : Calls P f #[v, x, y] w Q) : Calls P f #[v, x, y] w Q := c
def lowB (n : Int) : Bool := decide (97 ≤ n) && decide (n ≤ 122)
def digB (n : Int) : Bool := decide (48 ≤ n) && decide (n ≤ 57)
def nameCh (n : Int) : Bool := lowB n || digB n || n == 45
theorem lowB_no {n : Int} (h : lowB n = false) : ¬ (97 ≤ n ∧ n ≤ 122) := by unfold lowB at h; simp at h; omega
theorem lowB_yes {n : Int} (h : lowB n = true) : 97 ≤ n ∧ n ≤ 122 := by unfold lowB at h; simpa using h
theorem lowB_name {n : Int} (h : lowB n = true) : nameCh n = true := by unfold nameCh; rw [h]; rfl
theorem nameCh_no {n : Int} (h : nameCh n = false) : ¬ (97 ≤ n ∧ n ≤ 122) ∧ ¬ (48 ≤ n ∧ n ≤ 57) ∧ n ≠ 45 := by
  unfold nameCh lowB digB at h; simp at h; omega
theorem nameCh_yes {n : Int} (h : nameCh n = true) : (97 ≤ n ∧ n ≤ 122) ∨ (48 ≤ n ∧ n ≤ 57) ∨ n = 45 := by
  unfold nameCh lowB digB at h; simp at h; omega
def nameRest (l : List UInt8) : Bool := l.all fun c => nameCh (c.toNat : Int)
def nameB (s : ByteArray) : Bool := decide (s.size ≤ 12) && (match s.data.toList with | [] => false | x :: r => lowB (x.toNat : Int) && nameRest (x :: r))
theorem str_drop (s : ByteArray) (k : Nat) (h : k < s.size) : s.data.toList.drop k = s[k] :: s.data.toList.drop (k + 1) := by
  rw [List.drop_eq_getElem_cons (by simpa using h)]; rfl
theorem str_nil {s : ByteArray} (h : s.size = 0) : s.data.toList = [] := by
  refine List.eq_nil_of_length_eq_zero ?_
  simpa using h
theorem str_pos {s : ByteArray} (h : 0 < s.size) : s.toList.isEmpty = false := by
  cases e : s.toList with
  | cons a l => rfl
  | nil => rw [ByteArray.toList_eq] at e; have := congrArg List.length e; rw [Array.length_toList, List.length_nil] at this; exact absurd (show s.size = 0 from this) (by omega)
theorem nameRest_cons (c : UInt8) (l : List UInt8) : nameRest (c :: l) = (nameCh (c.toNat : Int) && nameRest l) := rfl
theorem nameB_long {s : ByteArray} (h : 12 < s.size) : nameB s = false := by
  unfold nameB; rw [decide_eq_false (by omega)]; rfl
theorem nameB_empty {s : ByteArray} (h : s.size = 0) : nameB s = false := by
  unfold nameB; rw [str_nil h, Bool.and_false]
theorem nameB_head {s : ByteArray} (h0 : 0 < s.size) (h : s.size ≤ 12) : nameB s = (lowB (s[0].toNat : Int) && nameRest (s.data.toList.drop 0)) := by
  unfold nameB
  have := str_drop s 0 h0
  rw [List.drop_zero] at this
  rw [decide_eq_true h, List.drop_zero, this]; rfl
set_option maxHeartbeats 400000 in
theorem l01Small_c (n : Int) (w : World) : Calls Try.prog 58 #[.int .u8 n] w (Same (.bool (lowB n)) w) := by
  refine hide_same fun v H => ?_
  go_enter Try.func58, Try.ntmps58
  go_wp2
  all_goals go_ret
  all_goals refine Same.mk ?_
  all_goals first | exact H.out | (rw [← H.out]; simp_all [lowB]; done) | (rw [← H.out]; simp_all [lowB]; omega)
set_option maxHeartbeats 400000 in
theorem l01Digit_c (n : Int) (w : World) : Calls Try.prog 59 #[.int .u8 n] w (Same (.bool (digB n)) w) := by
  refine hide_same fun v H => ?_
  go_enter Try.func59, Try.ntmps59
  go_wp2
  all_goals go_ret
  all_goals refine Same.mk ?_
  all_goals first | exact H.out | (rw [← H.out]; simp_all [digB]; done) | (rw [← H.out]; simp_all [digB]; omega)
set_option maxHeartbeats 1000000 in
theorem sIsName_c (s : ByteArray) (w : World) : Calls Try.prog 44 #[.string s] w (Same (.bool (nameB s)) w) := by
  refine hide_same fun v H => ?_
  rcases Nat.eq_zero_or_pos s.size with h0 | h0
  · have H' := Lib.hid (H.out.symm.trans (by rw [nameB_empty h0]))
    have e1 := str_nil h0
    have e2 : s = ByteArray.empty := by
      cases s with | mk d => cases d with | mk l => simp at e1; subst e1; rfl
    subst e2
    clear e1 h0
    go_enter Try.func44, Try.ntmps44
    go_wp2
    all_goals go_ret
    all_goals exact Same.mk H'.out.symm
  · have hem : s.toList.isEmpty = false := str_pos h0
    by_cases h12 : 12 < s.size
    · have H' := Lib.hid (H.out.symm.trans (by rw [nameB_long h12]))
      have h12' : (12 : Int) < s.size := by omega
      go_enter Try.func44, Try.ntmps44
      go_wp2
      all_goals go_ret
      all_goals exact Same.mk H'.out.symm
    · have HH := Lib.hid (nameB_head h0 (by omega))
      have HC := Lib.hid (fun w => l01Small_c (s[0].toNat : Int) w)
      rcases h1 : lowB (s[0].toNat : Int) with _ | _
      · rw [h1] at HC
        rw [h1] at HH
        have H' := Lib.hid (H.out.symm.trans (by rw [HH.out, Bool.false_and]))
        have h12' : ¬ (12 : Int) < s.size := by omega
        clear h1 HH
        go_enter Try.func44, Try.ntmps44
        go_wp2_with (first | (go_at_call 58; refine Calls.mono (HC.out _) ?_; rintro ee ww ⟨rfl, rfl⟩))
        all_goals go_ret
        all_goals exact Same.mk H'.out.symm
      · rw [h1] at HC
        rw [h1] at HH
        have H' := Lib.hid (H.out.symm.trans (by rw [HH.out, Bool.true_and]))
        have h12' : ¬ (12 : Int) < s.size := by omega
        clear h1 HH
        go_enter Try.func44, Try.ntmps44
        go_wp2_with (first | (go_at_call 58; refine Calls.mono (HC.out _) ?_; rintro ee ww ⟨rfl, rfl⟩))
        go_loop [3] (fun i => ∃ k : Nat, k ≤ s.size ∧ i = .int .i64 k ∧ Hid (v = .bool (nameRest (s.data.toList.drop k)))) (fun i => s.size - (intOf i).toNat)
        case atStart => exact ⟨0, Nat.zero_le _, rfl, H'⟩
        case round =>
          obtain ⟨k, hk, rfl, hv⟩ := hrel
          clear H' HC
          by_cases hlt : k < s.size
          · have HD := Lib.hid (hv.out.trans (by rw [str_drop s k hlt, nameRest_cons]))
            have HS := Lib.hid (fun w => l01Small_c (s[k].toNat : Int) w)
            have HG := Lib.hid (fun w => l01Digit_c (s[k].toNat : Int) w)
            clear hv
            unfold nameCh at HD
            rcases h1 : lowB (s[k].toNat : Int) with _ | _ <;> rcases h2 : digB (s[k].toNat : Int) with _ | _ <;> rcases h3 : ((s[k].toNat : Int) == 45) with _ | _ <;> rw [h1] at HD HS <;> rw [h2] at HD HG <;> rw [h3] at HD <;> simp only [Bool.not_true, Bool.not_false, Bool.true_or, Bool.or_true, Bool.false_or, Bool.or_false, Bool.true_and, Bool.and_true, Bool.false_and, Bool.and_false, if_true, if_false, Bool.false_eq_true] at HD <;> clear h1 h2
            all_goals
              have h3' : ((s[k].toNat : Int) != 45) = !((s[k].toNat : Int) == 45) := rfl
              rw [h3] at h3'
              go_wp2_with (first | (go_at_call 58; refine Calls.mono (HS.out _) ?_; rintro ee ww ⟨rfl, rfl⟩) | (go_at_call 59; refine Calls.mono (HG.out _) ?_; rintro ee ww ⟨rfl, rfl⟩))
              first
              | (go_ret; exact Same.mk HD.out.symm)
              | (go_round
                 case rel => exact ⟨k + 1, by omega, by go_num, HD⟩
                 case measure => simp [intOf]; omega)
          · have hks : k = s.size := by omega
            have hv2 := hv.out
            rw [List.drop_of_length_le (by simp; omega)] at hv2
            have HV := Lib.hid hv2
            clear hv hv2
            go_wp2
            go_ret
            exact Same.mk HV.out.symm
set_option maxHeartbeats 2000000 in
theorem IsName_c (s : ByteArray) (w : World) : Calls Try.prog 47 #[.string s] w (Same (.bool (nameB s)) w) := by
  refine hide_same fun v H => ?_
  rcases Nat.eq_zero_or_pos s.size with h0 | h0
  · have H' := Lib.hid (H.out.symm.trans (by rw [nameB_empty h0]))
    have h0' : (s.size : Int) < 1 := by omega
    clear h0
    go_enter Try.func47, Try.ntmps47
    go_wp2
    all_goals go_ret
    all_goals exact Same.mk H'.out.symm
  · by_cases h12 : 12 < s.size
    · have H' := Lib.hid (H.out.symm.trans (by rw [nameB_long h12]))
      have h12' : (12 : Int) < s.size := by omega
      have h1' : ¬ (s.size : Int) < 1 := by omega
      go_enter Try.func47, Try.ntmps47
      go_wp2
      all_goals go_ret
      all_goals exact Same.mk H'.out.symm
    · have HH := Lib.hid (H.out.symm.trans (by rw [nameB_head h0 (by omega)]))
      have h12' : ¬ (12 : Int) < s.size := by omega
      have h1' : ¬ (s.size : Int) < 1 := by omega
      go_enter Try.func47, Try.ntmps47
      go_wp2
      go_loop [16] (fun i => ∃ k : Nat, k ≤ s.size ∧ i = .int .i64 k ∧ Hid (v = .bool ((if k = 0 then lowB (s[0].toNat : Int) else true) && nameRest (s.data.toList.drop k)))) (fun i => s.size - (intOf i).toNat)
      case atStart => exact ⟨0, Nat.zero_le _, rfl, HH⟩
      case round =>
        obtain ⟨k, hk, rfl, hv⟩ := hrel
        clear HH
        by_cases hlt : k < s.size
        · have HD := Lib.hid (hv.out.trans (by rw [str_drop s k hlt, nameRest_cons]))
          clear hv
          have e0 : (if k = 0 then lowB (s[0].toNat : Int) else true) = (if k = 0 then lowB (s[k].toNat : Int) else true) := by
            split
            · rename_i h; subst h; rfl
            · rfl
          rw [e0] at HD
          clear e0
          rcases Nat.eq_zero_or_pos k with k0 | k0
          · subst k0
            rw [if_pos rfl] at HD
            rcases hq : lowB (s[0].toNat : Int) with _ | _
            · rw [hq, Bool.false_and] at HD
              have hq2 := lowB_no hq
              clear hq
              by_cases a1 : (97 : Int) ≤ (s[0].toNat : Int) <;> by_cases a2 : (s[0].toNat : Int) ≤ 122 <;> by_cases a3 : (48 : Int) ≤ (s[0].toNat : Int) <;> by_cases a4 : (s[0].toNat : Int) ≤ 57 <;> by_cases a5 : (s[0].toNat : Int) = 45 <;> first | (exfalso; clear HD; omega) | skip
              all_goals
                obtain ⟨q6, a6⟩ : ∃ q, ((s[0].toNat : Int) == 45) = q := ⟨_, rfl⟩
                have b6 : q6 = decide ((s[0].toNat : Int) = 45) := by rw [← a6, Bool.eq_iff_iff]; simp
                rw [show decide ((s[0].toNat : Int) = 45) = _ from by first | exact decide_eq_true a5 | exact decide_eq_false a5] at b6
                subst b6
                clear a5 hq2
                go_wp2
                go_ret
                exact Same.mk HD.out.symm
            · rw [hq, Bool.true_and, lowB_name hq, Bool.true_and] at HD
              have hq2 := lowB_yes hq
              clear hq
              by_cases a1 : (97 : Int) ≤ (s[0].toNat : Int) <;> by_cases a2 : (s[0].toNat : Int) ≤ 122 <;> by_cases a3 : (48 : Int) ≤ (s[0].toNat : Int) <;> by_cases a4 : (s[0].toNat : Int) ≤ 57 <;> by_cases a5 : (s[0].toNat : Int) = 45 <;> first | (exfalso; clear HD; omega) | skip
              all_goals
                obtain ⟨q6, a6⟩ : ∃ q, ((s[0].toNat : Int) == 45) = q := ⟨_, rfl⟩
                have b6 : q6 = decide ((s[0].toNat : Int) = 45) := by rw [← a6, Bool.eq_iff_iff]; simp
                rw [show decide ((s[0].toNat : Int) = 45) = _ from by first | exact decide_eq_true a5 | exact decide_eq_false a5] at b6
                subst b6
                clear a5 hq2
                go_wp2
                go_round
                case rel => exact ⟨1, by omega, by go_num, HD⟩
                case measure => simp [intOf]; omega
          · rw [if_neg (by omega), Bool.true_and] at HD
            rcases hq : nameCh (s[k].toNat : Int) with _ | _
            · rw [hq, Bool.false_and] at HD
              have hq2 := nameCh_no hq
              clear hq
              by_cases a1 : (97 : Int) ≤ (s[k].toNat : Int) <;> by_cases a2 : (s[k].toNat : Int) ≤ 122 <;> by_cases a3 : (48 : Int) ≤ (s[k].toNat : Int) <;> by_cases a4 : (s[k].toNat : Int) ≤ 57 <;> by_cases a5 : (s[k].toNat : Int) = 45 <;> first | (exfalso; clear HD; omega) | skip
              all_goals
                obtain ⟨q6, a6⟩ : ∃ q, ((s[k].toNat : Int) == 45) = q := ⟨_, rfl⟩
                have b6 : q6 = decide ((s[k].toNat : Int) = 45) := by rw [← a6, Bool.eq_iff_iff]; simp
                rw [show decide ((s[k].toNat : Int) = 45) = _ from by first | exact decide_eq_true a5 | exact decide_eq_false a5] at b6
                subst b6
                clear a5 hq2
                go_wp2
                go_ret
                exact Same.mk HD.out.symm
            · rw [hq, Bool.true_and] at HD
              have hq2 := nameCh_yes hq
              clear hq
              by_cases a1 : (97 : Int) ≤ (s[k].toNat : Int) <;> by_cases a2 : (s[k].toNat : Int) ≤ 122 <;> by_cases a3 : (48 : Int) ≤ (s[k].toNat : Int) <;> by_cases a4 : (s[k].toNat : Int) ≤ 57 <;> by_cases a5 : (s[k].toNat : Int) = 45 <;> first | (exfalso; clear HD; omega) | skip
              all_goals
                obtain ⟨q6, a6⟩ : ∃ q, ((s[k].toNat : Int) == 45) = q := ⟨_, rfl⟩
                have b6 : q6 = decide ((s[k].toNat : Int) = 45) := by rw [← a6, Bool.eq_iff_iff]; simp
                rw [show decide ((s[k].toNat : Int) = 45) = _ from by first | exact decide_eq_true a5 | exact decide_eq_false a5] at b6
                subst b6
                clear a5 hq2
                go_wp2
                go_round
                case rel => exact ⟨k + 1, by omega, by go_num, by rw [if_neg (by omega)]; exact HD⟩
                case measure => simp [intOf]; omega
        · have hks : k = s.size := by omega
          have hv2 := hv.out
          rw [List.drop_of_length_le (by simp; omega), if_neg (by omega)] at hv2
          have HV := Lib.hid hv2
          clear hv hv2
          go_wp2
          go_ret
          exact Same.mk HV.out.symm
end Go.Proofs.Ytdneffnnpjgnbaa
