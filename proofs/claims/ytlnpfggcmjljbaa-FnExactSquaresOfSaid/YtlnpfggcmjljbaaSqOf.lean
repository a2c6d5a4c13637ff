/- The sum of the squares of the residuals: what both sides return. -/
import Derived.Test.YtlnpfggcmjljbaaWorst
import Derived.Test.YtlnpfggcmjljbaaPred
namespace Go.Proofs.Ytlnpfggcmjljbaa
open Go.RowKit

def sqSum (rs : List Int) : Int := (rs.map fun x => x * x).sum
theorem sqSum_take {rs : List Int} {k : Nat} {x : Int} (h : rs[k]? = some x) : sqSum (rs.take (k + 1)) = sqSum (rs.take k) + x * x := by
  rw [take_snoc_of h]; simp [sqSum]
theorem sq_bd {x : Int} (h1 : -1000000 ≤ x) (h2 : x ≤ 1000000) : 0 ≤ x * x ∧ x * x ≤ 1000000000000 := by
  rcases Int.le_total 0 x with h | h
  · exact ⟨Int.mul_nonneg h h, Int.mul_le_mul h2 h2 h (by omega)⟩
  · rw [show x * x = (-x) * (-x) from (Int.neg_mul_neg x x).symm]
    exact ⟨Int.mul_nonneg (by omega) (by omega), Int.mul_le_mul (show -x ≤ 1000000 by omega) (show -x ≤ 1000000 by omega) (by omega) (by omega)⟩
theorem sqSum_bd (rs : List Int) (h : ∀ (k : Nat) (x : Int), rs[k]? = some x → -1000000 ≤ x ∧ x ≤ 1000000) : ∀ k, k ≤ rs.length → 0 ≤ sqSum (rs.take k) ∧ sqSum (rs.take k) ≤ 1000000000000 * (k : Int)
  | 0, _ => by simp [sqSum]
  | k + 1, hk => by
    have ih := sqSum_bd rs h k (by omega)
    have hx : rs[k]? = some rs[k] := by simp
    obtain ⟨h1, h2⟩ := h k _ hx
    have := sq_bd h1 h2
    rw [sqSum_take hx]; omega
theorem allInB_bad {rs : List Int} {l h : Int} {k : Nat} {x : Int} (hx : rs[k]? = some x) (hq : inB x l h = false) : allInB rs l h = false := by
  unfold allInB
  rw [List.all_eq_false]
  exact ⟨x, List.mem_of_getElem? hx, by simp [hq]⟩
theorem allInB_snoc {rs : List Int} {l h : Int} {k : Nat} {x : Int} (ha : allInB (rs.take k) l h = true) (hx : rs[k]? = some x) (hq : inB x l h = true) : allInB (rs.take (k + 1)) l h = true := by
  unfold allInB at *
  rw [take_snoc_of hx]; simp [ha, hq]
theorem sqSum_bd' (rs : List Int) (k : Nat) (hk : k ≤ rs.length) (h : allInB (rs.take k) (-1000000) 1000000 = true) : 0 ≤ sqSum (rs.take k) ∧ sqSum (rs.take k) ≤ 1000000000000 * (k : Int) := by
  have := sqSum_bd (rs.take k) (fun j x hx => allInB_get h hx) k (by rw [List.length_take]; omega)
  rw [List.take_take, Nat.min_self] at this
  exact this
def sqI (e p : Int) (xs : List (Int × Int)) : Int × Int :=
  if (residI e p xs).2 ≠ 0 then (0, (residI e p xs).2) else if !allInB (residI e p xs).1 (-1000000) 1000000 then (0, 5) else (sqSum (residI e p xs).1, 0)
set_option maxHeartbeats 4000000 in
theorem SquaresOf_c (u : Value) (xs : List (Int × Int)) (e p : Int) (w : World) (hu : Rd cel2 w u xs) :
    Calls Try.prog 39 #[u, .agg #[.int .i64 e, .int .i64 p]] w (Ret (.tuple #[.int .i64 (sqI e p xs).1, .int .i64 (sqI e p xs).2]) w) := by
  refine hide_ret fun v H => ?_
  have hlen := residI_len50 e p xs
  have HC := Lib.hid (fun w hu => ResidualsOf_c u xs e p w hu)
  unfold sqI at H
  generalize residI e p xs = s at *
  obtain ⟨rs, code⟩ := s
  dsimp only at HC hlen
  by_cases h1 : code = 0
  · subst h1
    have HA := Lib.hid (fun w u hu => allIn_c u rs (-1000000) 1000000 w hu)
    rcases h2 : allInB rs (-1000000) 1000000 with _ | _ <;> simp only [h2, ne_eq, not_true_eq_false, Bool.not_true, Bool.not_false, Bool.true_or, Bool.or_true, Bool.false_or, Bool.or_false, Bool.true_and, Bool.and_true, Bool.false_and, Bool.and_false, if_true, if_false, Bool.false_eq_true] at H HA
    · have H2 := Lib.hid h2
      clear h2
      go_enter Try.func39, Try.ntmps39
      go_wp2_with (first | (go_at_call 37; refine Calls.mono (HC.out _ (hu.bel (by (repeat (first | exact Bel.refl _ | apply Bel.ext | apply Bel.alloc | apply Bel.drew | refine Bel.set ?_ (by first | (simp; done) | (simp [go_sem]; done) | omega) _))))) ?_; rintro ee ww ⟨v0, g0, rfl, rfl, hown⟩; obtain ⟨a0, c0, rfl, hn0, hm0⟩ := own_len hown) | (go_at_call 66; refine Calls.mono (HA.out _ _ (rd_of_row (own_bel hown ?_))) ?_; (focus (repeat (first | exact Bel.refl _ | apply Bel.ext | apply Bel.alloc | apply Bel.drew))); rintro ee ww ⟨rfl, _, rfl⟩))
      all_goals go_ret2
      all_goals refine Ret.mk ?_ (?_ : Bel _ _)
      all_goals first | (repeat (first | exact Bel.refl _ | apply Bel.ext | apply Bel.alloc | apply Bel.drew | refine Bel.set ?_ (by first | (simp; done) | (simp [go_sem]; done) | omega) _)); done | exact H.out
    · have hget : ∀ (k : Nat) (x : Int), rs[k]? = some x → -1000000 ≤ x ∧ x ≤ 1000000 := fun k x hx => allInB_get h2 hx
      clear h2
      go_enter Try.func39, Try.ntmps39
      go_wp2_with (first | (go_at_call 37; refine Calls.mono (HC.out _ (hu.bel (by (repeat (first | exact Bel.refl _ | apply Bel.ext | apply Bel.alloc | apply Bel.drew | refine Bel.set ?_ (by first | (simp; done) | (simp [go_sem]; done) | omega) _))))) ?_; rintro ee ww ⟨v0, g0, rfl, rfl, hown⟩; obtain ⟨a0, c0, rfl, hn0, hm0⟩ := own_len hown) | (go_at_call 66; refine Calls.mono (HA.out _ _ (rd_of_row (own_bel hown ?_))) ?_; (focus (repeat (first | exact Bel.refl _ | apply Bel.ext | apply Bel.alloc | apply Bel.drew))); rintro ee ww ⟨rfl, _, rfl⟩))
      have hrd := rd_of_row hown
      have hwA : Bel w (ext (w.alloc (Obj.cells #[.int .i64 e, .int .i64 p] 56)) g0) := by (repeat (first | exact Bel.refl _ | apply Bel.ext | apply Bel.alloc | apply Bel.drew | refine Bel.set ?_ (by first | (simp; done) | (simp [go_sem]; done) | omega) _))
      generalize ext (w.alloc (Obj.cells #[.int .i64 e, .int .i64 p] 56)) g0 = A at *
      obtain ⟨a1, n1, c1, heq, hs⟩ := hrd.sl
      cases heq
      have HL := Lib.hid hs.len
      have hmax := hs.cap
      unfold maxLen at hmax
      go_loopw [8, 27] (fun j i wr => ∃ k : Nat, k ≤ rs.length ∧ i = .int .i64 k ∧ j = .int .i64 (sqSum (rs.take k)) ∧ (∃ g, wr = ext A g)) (fun _ i _ => rs.length - (intOf i).toNat)
      case atStart => exact ⟨0, Nat.zero_le _, rfl, rfl, ext_ex ((Bel.refl _).ext _)⟩
      case round =>
        obtain ⟨k, hk, rfl, rfl, ⟨g, rfl⟩⟩ := hrel
        have hb := sqSum_bd rs hget k hk
        by_cases hlt : k < rs.length
        · obtain ⟨b, off, rfl, hbs⟩ := hs.base hlt
          obtain ⟨x, hx, hc0⟩ := hs.at1 hlt
          obtain ⟨x1, x2⟩ := hget k x hx.out
          obtain ⟨y1, y2⟩ := sq_bd x1 x2
          obtain ⟨z1, z2⟩ : 0 ≤ sqSum (rs.take k) ∧ sqSum (rs.take k) ≤ 50000000000000 := by omega
          have HS := Lib.hid (sqSum_take hx.out)
          clear hget hb
          generalize sqSum (rs.take k) = z at *
          go_wp2_with (fail)
          all_goals (try ((refine region_ext (by kernel_rfl) (by kernel_rfl) ?_; (repeat (go_big_quiet_step (fail))); refine wpQuiet_nil ?_; rintro _ ⟨_, rfl⟩); go_wp2_with (fail)))
          go_roundw
          case rel => exact ⟨k + 1, by omega, by go_num, by rw [HS.out], ext_ex (by (repeat (first | exact Bel.refl _ | apply Bel.ext | apply Bel.alloc | apply Bel.drew | refine Bel.set ?_ (by first | (simp; done) | (simp [go_sem]; done) | omega) _)) : Bel _ _)⟩
          case measure => simp [intOf]; omega
        · go_wp2
          go_ret2
          refine Ret.mk ?_ ?_
          · rw [← H.out, List.take_of_length_le (by omega)]
            try rfl
          · exact Below.trans hwA (Below.mono ((Bel.refl A).ext _) hwA.size)
  · simp only [h1, ne_eq, not_false_eq_true, if_true] at H
    have h1' : (code == 0) = false := by simp [h1]
    have h1'' : (code != 0) = true := by simp [h1]
    go_enter Try.func39, Try.ntmps39
    go_wp2_with (first | (go_at_call 37; refine Calls.mono (HC.out _ (hu.bel (by (repeat (first | exact Bel.refl _ | apply Bel.ext | apply Bel.alloc | apply Bel.drew | refine Bel.set ?_ (by first | (simp; done) | (simp [go_sem]; done) | omega) _))))) ?_; rintro ee ww ⟨v0, g0, rfl, rfl, hown⟩; obtain ⟨a0, c0, rfl, hn0, hm0⟩ := own_len hown))
    all_goals go_ret2
    all_goals refine Ret.mk ?_ (?_ : Bel _ _)
    all_goals first | (repeat (first | exact Bel.refl _ | apply Bel.ext | apply Bel.alloc | apply Bel.drew | refine Bel.set ?_ (by first | (simp; done) | (simp [go_sem]; done) | omega) _)); done | exact H.out
set_option maxHeartbeats 4000000 in
theorem sSquaresOf_c (u : Value) (xs : List (Int × Int)) (e p : Int) (w : World) (hu : Rd cel2 w u xs) :
    Calls Try.prog 38 #[u, .agg #[.int .i64 e, .int .i64 p]] w (Ret (.tuple #[.int .i64 (sqI e p xs).1, .int .i64 (sqI e p xs).2]) w) := by
  refine hide_ret fun v H => ?_
  have hlen := residI_len50 e p xs
  have HC := Lib.hid (fun w hu => sResidualsOf_c u xs e p w hu)
  unfold sqI at H
  generalize residI e p xs = s at *
  obtain ⟨rs, code⟩ := s
  dsimp only at HC hlen
  by_cases h1 : code = 0
  · subst h1
    simp only [ne_eq, not_true_eq_false, if_false] at H
    go_enter Try.func38, Try.ntmps38
    go_wp2_with (first | (go_at_call 35; refine Calls.mono (HC.out _ (hu.bel (by (repeat (first | exact Bel.refl _ | apply Bel.ext | apply Bel.alloc | apply Bel.drew | refine Bel.set ?_ (by first | (simp; done) | (simp [go_sem]; done) | omega) _))))) ?_; rintro ee ww ⟨v0, g0, rfl, rfl, hown⟩; obtain ⟨a0, c0, rfl, hn0, hm0⟩ := own_len hown))
    have hrd := rd_of_row hown
    have hwA : Bel w (ext (w.alloc (Obj.cells #[.int .i64 e, .int .i64 p] 56)) g0) := by (repeat (first | exact Bel.refl _ | apply Bel.ext | apply Bel.alloc | apply Bel.drew | refine Bel.set ?_ (by first | (simp; done) | (simp [go_sem]; done) | omega) _))
    generalize ext (w.alloc (Obj.cells #[.int .i64 e, .int .i64 p] 56)) g0 = A at *
    obtain ⟨a1, n1, c1, heq, hs⟩ := hrd.sl
    cases heq
    have HL := Lib.hid hs.len
    have hmax := hs.cap
    unfold maxLen at hmax
    go_loopw [8, 9] (fun j i wr => ∃ k : Nat, k ≤ rs.length ∧ i = .int .i64 k ∧ j = .int .i64 (sqSum (rs.take k)) ∧ (∃ g, wr = ext A g) ∧ Hid (allInB (rs.take k) (-1000000) 1000000 = true)) (fun _ i _ => rs.length - (intOf i).toNat)
    case atStart => exact ⟨0, Nat.zero_le _, rfl, rfl, ext_ex (Bel.refl _), Lib.hid (by simp [allInB])⟩
    case round =>
      obtain ⟨k, hk, rfl, rfl, ⟨g, rfl⟩, hv⟩ := hrel
      have hb := sqSum_bd' rs k hk hv.out
      by_cases hlt : k < rs.length
      · obtain ⟨b, off, rfl, hbs⟩ := hs.base hlt
        obtain ⟨x, hx, hc0⟩ := hs.at1 hlt
        rcases hq : inB x (-1000000) 1000000 with _ | _
        · have HQ := Lib.hid hq
          have HI := Lib.hid (fun w => hq ▸ l00In_c x (-1000000) 1000000 w)
          clear hq
          go_wp2_with (first | (go_at_call 58; refine Calls.mono (HI.out _) ?_; rintro ee ww ⟨rfl, rfl⟩))
          go_ret2
          refine Ret.mk ?_ ?_
          · rw [← H.out, allInB_bad hx.out HQ.out]; rfl
          · exact Below.trans hwA (Below.mono ((Bel.refl A).ext _) hwA.size)
        · have HQ := Lib.hid hq
          obtain ⟨x1, x2⟩ := inB_iff.1 hq
          have HI := Lib.hid (fun w => hq ▸ l00In_c x (-1000000) 1000000 w)
          clear hq
          obtain ⟨y1, y2⟩ := sq_bd x1 x2
          obtain ⟨z1, z2⟩ : 0 ≤ sqSum (rs.take k) ∧ sqSum (rs.take k) ≤ 50000000000000 := by omega
          have HS := Lib.hid (sqSum_take hx.out)
          have HT := Lib.hid (allInB_snoc hv.out hx.out HQ.out)
          clear hb
          generalize sqSum (rs.take k) = z at *
          go_wp2_with (first | (go_at_call 58; refine Calls.mono (HI.out _) ?_; rintro ee ww ⟨rfl, rfl⟩))
          refine region_ext (by kernel_rfl) (by kernel_rfl) ?_
          repeat (go_big_quiet_step (fail))
          refine wpQuiet_nil ?_
          rintro _ ⟨_, rfl⟩
          go_wp2
          go_roundw
          case rel => exact ⟨k + 1, by omega, by go_num, by rw [HS.out], ext_ex (by (repeat (first | exact Bel.refl _ | apply Bel.ext | apply Bel.alloc | apply Bel.drew | refine Bel.set ?_ (by first | (simp; done) | (simp [go_sem]; done) | omega) _)) : Bel _ _), HT⟩
          case measure => simp [intOf]; omega
      · have ha : allInB rs (-1000000) 1000000 = true := by have := hv.out; rw [List.take_of_length_le (by omega)] at this; exact this
        have HT := Lib.hid ha
        clear ha
        go_wp2
        go_ret2
        refine Ret.mk ?_ ?_
        · rw [← H.out, HT.out, List.take_of_length_le (by omega)]
          try rfl
        · exact Below.trans hwA (Below.mono ((Bel.refl A).ext _) hwA.size)
  · simp only [h1, ne_eq, not_false_eq_true, if_true] at H
    have h1' : (code == 0) = false := by simp [h1]
    have h1'' : (code != 0) = true := by simp [h1]
    go_enter Try.func38, Try.ntmps38
    go_wp2_with (first | (go_at_call 35; refine Calls.mono (HC.out _ (hu.bel (by (repeat (first | exact Bel.refl _ | apply Bel.ext | apply Bel.alloc | apply Bel.drew | refine Bel.set ?_ (by first | (simp; done) | (simp [go_sem]; done) | omega) _))))) ?_; rintro ee ww ⟨v0, g0, rfl, rfl, hown⟩; obtain ⟨a0, c0, rfl, hn0, hm0⟩ := own_len hown))
    all_goals go_ret2
    all_goals refine Ret.mk ?_ (?_ : Bel _ _)
    all_goals first | (repeat (first | exact Bel.refl _ | apply Bel.ext | apply Bel.alloc | apply Bel.drew | refine Bel.set ?_ (by first | (simp; done) | (simp [go_sem]; done) | omega) _)); done | exact H.out
end Go.Proofs.Ytlnpfggcmjljbaa
