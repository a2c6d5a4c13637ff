/- The line with the least squares through minima: what the reference returns as a whole. -/
import Derived.Test.YtlnpfggcmjljbaaFit2
namespace Go.Proofs.Ytlnpfggcmjljbaa
open Go.RowKit

theorem map_take_all {α β : Type} (f : α → β) (xs : List α) : (xs.take xs.length).map f = xs.map f := by rw [List.take_length]
theorem mem_two {W X : World} (h : Bel W X) (e : TypeId) : Mem W ((X.alloc (.cells #[] e)).alloc (.cells #[] e)) [⟨.slice (some ⟨X.heap.size, 0, none⟩) 0 0, e, 1, 0, []⟩, ⟨.slice (some ⟨X.heap.size + 1, 0, none⟩) 0 0, e, 1, 0, []⟩] := by
  have hM := mem_lit (mem_lit (mem_bel (mem_nil W) h) e 1 [] 0 rfl (by decide)) e 1 [] 0 rfl (by decide)
  simpa using hM
theorem mem_two_len {W X : World} {v1 v2 : Value} {e : TypeId} {k k1 k2 : Nat} {c1 c2 : List Value} (h : Mem W X [⟨v1, e, 1, k, c1⟩, ⟨v2, e, 1, k, c2⟩]) (h1 : k1 = k) (h2 : k2 = k) : Mem W X [⟨v1, e, 1, k1, c1⟩, ⟨v2, e, 1, k2, c2⟩] := by
  subst h1; subst h2; exact h
set_option maxHeartbeats 8000000 in
theorem l13Fit_c (u : Value) (xs : List (Int × Int)) (w : World) (hu : Rd cel2 w u xs) :
    Calls Try.prog 69 #[u] w (Ret (fitV (fitI xs)) w) := by
  refine hide_ret fun v H => ?_
  have hu' := hu
  obtain ⟨a, n, c, rfl, hs⟩ := hu'.sl
  have hcap := hs.le; have hmax := hs.cap
  unfold maxLen at hmax
  have HL := Lib.hid hs.len
  rcases h1 : minimaB xs with _ | _
  · simp only [fitI, h1, Bool.not_true, Bool.not_false, if_true, if_false, Bool.false_eq_true] at H
    go_enter Try.func69, Try.ntmps69
    go_wp2_with (first | (go_at_call 50; refine Calls.mono (l13Ok_c _ xs _ (hu.bel ?_)) ?_; (focus (repeat (first | exact Bel.refl _ | apply Bel.ext | apply Bel.alloc | apply Bel.drew))); rintro ee ww ⟨rfl, _, rfl⟩))
    refine bodyPost_ret (v := .tuple #[.agg #[.int .i64 0, .int .i64 0], .agg #[.int .i64 0, .int .i64 0], .int .i64 1]) (by simp [results, Try.results69, go_sem]) rfl (Ret.mk ?_ (?_ : Bel _ _))
    · exact H.out
    · (repeat (first | exact Bel.refl _ | apply Bel.ext | apply Bel.alloc | apply Bel.drew | refine Bel.set ?_ (by first | (simp; done) | (simp [go_sem]; done) | omega) _))
  have hlen := minimaB_len h1
  rw [← HL.out] at hlen
  by_cases h2 : n < 2
  · have h2' : xs.length < 2 := by rw [← HL.out]; exact h2
    simp only [fitI, h1, Bool.not_true, Bool.not_false, if_true, if_false, Bool.false_eq_true, if_pos h2'] at H
    clear h2'
    go_enter Try.func69, Try.ntmps69
    go_wp2_with (first | (go_at_call 50; refine Calls.mono (l13Ok_c _ xs _ (hu.bel ?_)) ?_; (focus (repeat (first | exact Bel.refl _ | apply Bel.ext | apply Bel.alloc | apply Bel.drew))); rintro ee ww ⟨rfl, _, rfl⟩))
    refine bodyPost_ret (v := .tuple #[.agg #[.int .i64 0, .int .i64 0], .agg #[.int .i64 0, .int .i64 0], .int .i64 3]) (by simp [results, Try.results69, go_sem]) rfl (Ret.mk ?_ (?_ : Bel _ _))
    · exact H.out
    · (repeat (first | exact Bel.refl _ | apply Bel.ext | apply Bel.alloc | apply Bel.drew | refine Bel.set ?_ (by first | (simp; done) | (simp [go_sem]; done) | omega) _))
  have h2' : ¬ xs.length < 2 := by rw [← HL.out]; exact h2
  obtain ⟨b, off, rfl, hb⟩ := hs.base (k := 0) (by omega)
  obtain ⟨x0, y0, hx0, hc0, hd0⟩ := hs.at2 (k := 0) (by omega)
  obtain ⟨x9, y9, hx9, hc9, hd9⟩ := hs.at2 (k := n - 1) (by omega)
  have hspan : spanB xs = x9 - x0 := by unfold spanB; rw [← HL.out, getD_of hx9.out, getD_of hx0.out]
  have q0 := minimaB_get h1 hx0.out
  have q9 := minimaB_get h1 hx9.out
  simp only at q0 q9
  have w1 : IntKind.i64.wrap ((n : Int) - 1) = (n : Int) - 1 := IntWalk.i64_in _ (by omega)
  have w2 : IntKind.i64.wrap (x9 - x0) = x9 - x0 := IntWalk.i64_in _ (by omega)
  simp only [Nat.zero_mul, Nat.add_zero] at hc0
  by_cases h3 : 1000 < spanB xs
  · simp only [fitI, h1, Bool.not_true, Bool.not_false, if_true, if_false, Bool.false_eq_true, if_neg h2', if_pos h3] at H
    rw [hspan] at h3
    clear h2' hspan
    go_enter Try.func69, Try.ntmps69
    go_wp2_with (first | (go_at_call 50; refine Calls.mono (l13Ok_c _ xs _ (hu.bel ?_)) ?_; (focus (repeat (first | exact Bel.refl _ | apply Bel.ext | apply Bel.alloc | apply Bel.drew))); rintro ee ww ⟨rfl, _, rfl⟩))
    refine region_ext (by kernel_rfl) (by kernel_rfl) ?_
    repeat (go_big_quiet_step (fail))
    refine wpQuiet_nil ?_
    rintro _ ⟨_, rfl⟩
    go_wp2
    refine bodyPost_ret (v := .tuple #[.agg #[.int .i64 0, .int .i64 0], .agg #[.int .i64 0, .int .i64 0], .int .i64 5]) (by simp [results, Try.results69, go_sem]) rfl (Ret.mk ?_ (?_ : Bel _ _))
    · exact H.out
    · (repeat (first | exact Bel.refl _ | apply Bel.ext | apply Bel.alloc | apply Bel.drew | refine Bel.set ?_ (by first | (simp; done) | (simp [go_sem]; done) | omega) _))
  simp only [fitI, h1, Bool.not_true, Bool.not_false, if_true, if_false, Bool.false_eq_true, if_neg h2', if_neg h3] at H
  have HG := Lib.hid (fit_bd h1 (by omega) (by omega))
  have HS := Lib.hid (fun k hk => sums_bd h1 k hk)
  have HM := Lib.hid (fun (k : Nat) (x : Int × Int) (hx : xs[k]? = some x) => minimaB_get h1 hx)
  rw [hspan] at h3
  clear h2' hspan
  go_enter Try.func69, Try.ntmps69
  go_wp2_with (first | (go_at_call 50; refine Calls.mono (l13Ok_c _ xs _ (hu.bel ?_)) ?_; (focus (repeat (first | exact Bel.refl _ | apply Bel.ext | apply Bel.alloc | apply Bel.drew))); rintro ee ww ⟨rfl, _, rfl⟩))
  refine region_ext (by kernel_rfl) (by kernel_rfl) ?_
  repeat (go_big_quiet_step (fail))
  refine wpQuiet_nil ?_
  rintro _ ⟨_, rfl⟩
  go_wp2
  go_loopw [6, 7, 8] (fun o1 o2 i wr => ∃ k : Nat, k ≤ n ∧ i = .int .i64 k ∧ Mem ((w.alloc (Obj.cells #[.int .i64 0, .int .i64 0] 37)).alloc (Obj.cells #[.int .i64 0, .int .i64 0] 37)) wr [⟨o1, 2, 1, k, celI.row ((xs.take k).map (·.1))⟩, ⟨o2, 2, 1, k, celI.row ((xs.take k).map (·.2))⟩]) (fun _ _ i _ => n - (intOf i).toNat)
  case atStart =>
    refine ⟨0, Nat.zero_le _, rfl, mem_two ?_ 2⟩
    (repeat (first | exact Bel.refl _ | apply Bel.ext | apply Bel.alloc | apply Bel.drew | refine Bel.set ?_ (by first | (simp; done) | (simp [go_sem]; done) | omega) _))
  case round =>
    obtain ⟨k, hk, rfl, hM⟩ := hrel
    obtain ⟨g, rfl⟩ := ext_ex hM.bel
    by_cases hlt : k < n
    · obtain ⟨x, y, hx, hcx, hcy⟩ := hs.at2 hlt
      go_wp2_with (first | (at_builtin; refine wpList_append_mem rfl (.tmp 44) (.tmp 50) 32 2 1 8 rfl appI (by decide) _ _ 0 _ _ _ rfl 1 [.int .i64 x] rfl (by first | with_reducible rfl | (simp [go_sem]; done)) rfl (by intro u hu; simp at hu; first | (subst hu; rfl) | (rcases hu with rfl | rfl <;> rfl) | (rcases hu with rfl | rfl | rfl <;> rfl)) (mem_bel hM ?_) (by omega) (by omega) ?_; (focus (repeat (first | exact Bel.refl _ | apply Bel.ext | apply Bel.alloc | apply Bel.drew))); intro v2 g2 hM2; (try simp only [List.set_cons_zero, List.set_cons_succ] at hM2)) | (at_builtin; refine wpList_append_mem rfl (.tmp 52) (.tmp 58) 32 2 1 8 rfl appI (by decide) _ _ 1 _ _ _ rfl 1 [.int .i64 y] rfl (by first | with_reducible rfl | (simp [go_sem]; done)) rfl (by intro u hu; simp at hu; first | (subst hu; rfl) | (rcases hu with rfl | rfl <;> rfl) | (rcases hu with rfl | rfl | rfl <;> rfl)) (mem_bel hM2 ?_) (by omega) (by omega) ?_; (focus (repeat (first | exact Bel.refl _ | apply Bel.ext | apply Bel.alloc | apply Bel.drew))); intro v2 g2 hM3; (try simp only [List.set_cons_zero, List.set_cons_succ] at hM3)))
      go_roundw
      case rel =>
        refine ⟨k + 1, by omega, by go_num, ?_⟩
        rw [map_take_succ _ hx.out, map_take_succ _ hx.out, Cel.row_append, Cel.row_append, Cel.row_one, Cel.row_one]; exact hM3
      case measure => simp [intOf]; omega
    · have hk' : k = n := by omega
      subst hk'
      have e0 : xs.take k = xs := List.take_of_length_le (by rw [HL.out]; exact Nat.le_refl _)
      have l1 : (xs.map (·.1)).length = k := by rw [List.length_map, HL.out]
      have l2 : (xs.map (·.2)).length = k := by rw [List.length_map, HL.out]
      rw [e0] at hM
      replace hM := mem_two_len hM l1 l2
      have Z1 := Lib.hid (show ∀ j, j ≤ (xs.map (·.1)).length → -1000000000000 ≤ ((xs.map (·.1)).take j).sum ∧ ((xs.map (·.1)).take j).sum ≤ 1000000000000 from fun j hj => by
        have := HS.out j (by simpa using hj); unfold sumF at this; rw [← List.map_take]; omega)
      have Z2 := Lib.hid (show ∀ j, j ≤ (xs.map (·.2)).length → -1000000000000 ≤ ((xs.map (·.2)).take j).sum ∧ ((xs.map (·.2)).take j).sum ≤ 1000000000000 from fun j hj => by
        have := HS.out j (by simpa using hj); unfold sumF at this; rw [← List.map_take]; omega)
      have S1 := Lib.hid (fun u w hu => l02Sum_c u (xs.map (·.1)) w hu Z1.out)
      have S2 := Lib.hid (fun u w hu => l02Sum_c u (xs.map (·.2)) w hu Z2.out)
      have SL := Lib.hid (fun u v w hu hv => l08Line_c u v xs w hu hv (fun k x hx => HM.out k x hx) (by rw [← HL.out]; exact hlen))
      obtain ⟨b1, b2, b3, b4, b5, b6, b7, b8⟩ := HG.out
      unfold sumF at b1 b2 b3 b4
      unfold fitA fitB sumF at H
      rw [← HL.out] at H
      clear e0 l1 l2
      generalize fitN xs = N at *
      generalize fitD xs = D at *
      generalize (xs.map (·.1)).sum = C at *
      generalize (xs.map (·.2)).sum = T at *
      obtain ⟨z1, z2, z3, z4, z5, z6⟩ := fit_last C T N D N D k b1 b2 b3 b4 (by omega) (by omega) b5 (Int.le_refl _) b6 b7 (Int.le_refl _) b8
      go_wp2_with (first | (go_at_call 81; refine Calls.mono (mem_ret hM ?_ (SL.out _ _ _ ?_ ?_)) ?_; (focus (repeat (first | exact Bel.refl _ | apply Bel.ext | apply Bel.alloc | apply Bel.drew))); (focus (first | exact Rd.bel (rd_of hM 0 rfl) (by (repeat (first | exact Bel.refl _ | apply Bel.ext | apply Bel.alloc | apply Bel.drew))) | exact Rd.bel (rd_of hM 1 rfl) (by (repeat (first | exact Bel.refl _ | apply Bel.ext | apply Bel.alloc | apply Bel.drew))) | exact Rd.bel (rd_of hM 2 rfl) (by (repeat (first | exact Bel.refl _ | apply Bel.ext | apply Bel.alloc | apply Bel.drew))) | exact Rd.bel (rd_of hM 3 rfl) (by (repeat (first | exact Bel.refl _ | apply Bel.ext | apply Bel.alloc | apply Bel.drew))) | exact Rd.bel (rd_of hM 4 rfl) (by (repeat (first | exact Bel.refl _ | apply Bel.ext | apply Bel.alloc | apply Bel.drew))) | exact Rd.bel (rd_of hM 5 rfl) (by (repeat (first | exact Bel.refl _ | apply Bel.ext | apply Bel.alloc | apply Bel.drew))) | exact Rd.bel (rd_of hM 6 rfl) (by (repeat (first | exact Bel.refl _ | apply Bel.ext | apply Bel.alloc | apply Bel.drew))) | exact Rd.bel (rd_of hM 7 rfl) (by (repeat (first | exact Bel.refl _ | apply Bel.ext | apply Bel.alloc | apply Bel.drew))) | exact Rd.bel (rd_of hM 8 rfl) (by (repeat (first | exact Bel.refl _ | apply Bel.ext | apply Bel.alloc | apply Bel.drew))) | exact Rd.bel (rd_of hM 9 rfl) (by (repeat (first | exact Bel.refl _ | apply Bel.ext | apply Bel.alloc | apply Bel.drew))) | exact Rd.bel (rd_of hM 10 rfl) (by (repeat (first | exact Bel.refl _ | apply Bel.ext | apply Bel.alloc | apply Bel.drew))) | exact Rd.bel (rd_of hM 11 rfl) (by (repeat (first | exact Bel.refl _ | apply Bel.ext | apply Bel.alloc | apply Bel.drew))))); (focus (first | exact Rd.bel (rd_of hM 0 rfl) (by (repeat (first | exact Bel.refl _ | apply Bel.ext | apply Bel.alloc | apply Bel.drew))) | exact Rd.bel (rd_of hM 1 rfl) (by (repeat (first | exact Bel.refl _ | apply Bel.ext | apply Bel.alloc | apply Bel.drew))) | exact Rd.bel (rd_of hM 2 rfl) (by (repeat (first | exact Bel.refl _ | apply Bel.ext | apply Bel.alloc | apply Bel.drew))) | exact Rd.bel (rd_of hM 3 rfl) (by (repeat (first | exact Bel.refl _ | apply Bel.ext | apply Bel.alloc | apply Bel.drew))) | exact Rd.bel (rd_of hM 4 rfl) (by (repeat (first | exact Bel.refl _ | apply Bel.ext | apply Bel.alloc | apply Bel.drew))) | exact Rd.bel (rd_of hM 5 rfl) (by (repeat (first | exact Bel.refl _ | apply Bel.ext | apply Bel.alloc | apply Bel.drew))) | exact Rd.bel (rd_of hM 6 rfl) (by (repeat (first | exact Bel.refl _ | apply Bel.ext | apply Bel.alloc | apply Bel.drew))) | exact Rd.bel (rd_of hM 7 rfl) (by (repeat (first | exact Bel.refl _ | apply Bel.ext | apply Bel.alloc | apply Bel.drew))) | exact Rd.bel (rd_of hM 8 rfl) (by (repeat (first | exact Bel.refl _ | apply Bel.ext | apply Bel.alloc | apply Bel.drew))) | exact Rd.bel (rd_of hM 9 rfl) (by (repeat (first | exact Bel.refl _ | apply Bel.ext | apply Bel.alloc | apply Bel.drew))) | exact Rd.bel (rd_of hM 10 rfl) (by (repeat (first | exact Bel.refl _ | apply Bel.ext | apply Bel.alloc | apply Bel.drew))) | exact Rd.bel (rd_of hM 11 rfl) (by (repeat (first | exact Bel.refl _ | apply Bel.ext | apply Bel.alloc | apply Bel.drew))))); rintro ee ww ⟨rfl, _, rfl, hM⟩) | (go_at_call 82; refine Calls.mono (mem_ret hM ?_ (S2.out _ _ ?_)) ?_; (focus (repeat (first | exact Bel.refl _ | apply Bel.ext | apply Bel.alloc | apply Bel.drew))); (focus (first | exact Rd.bel (rd_of hM 0 rfl) (by (repeat (first | exact Bel.refl _ | apply Bel.ext | apply Bel.alloc | apply Bel.drew))) | exact Rd.bel (rd_of hM 1 rfl) (by (repeat (first | exact Bel.refl _ | apply Bel.ext | apply Bel.alloc | apply Bel.drew))) | exact Rd.bel (rd_of hM 2 rfl) (by (repeat (first | exact Bel.refl _ | apply Bel.ext | apply Bel.alloc | apply Bel.drew))) | exact Rd.bel (rd_of hM 3 rfl) (by (repeat (first | exact Bel.refl _ | apply Bel.ext | apply Bel.alloc | apply Bel.drew))) | exact Rd.bel (rd_of hM 4 rfl) (by (repeat (first | exact Bel.refl _ | apply Bel.ext | apply Bel.alloc | apply Bel.drew))) | exact Rd.bel (rd_of hM 5 rfl) (by (repeat (first | exact Bel.refl _ | apply Bel.ext | apply Bel.alloc | apply Bel.drew))) | exact Rd.bel (rd_of hM 6 rfl) (by (repeat (first | exact Bel.refl _ | apply Bel.ext | apply Bel.alloc | apply Bel.drew))) | exact Rd.bel (rd_of hM 7 rfl) (by (repeat (first | exact Bel.refl _ | apply Bel.ext | apply Bel.alloc | apply Bel.drew))) | exact Rd.bel (rd_of hM 8 rfl) (by (repeat (first | exact Bel.refl _ | apply Bel.ext | apply Bel.alloc | apply Bel.drew))) | exact Rd.bel (rd_of hM 9 rfl) (by (repeat (first | exact Bel.refl _ | apply Bel.ext | apply Bel.alloc | apply Bel.drew))) | exact Rd.bel (rd_of hM 10 rfl) (by (repeat (first | exact Bel.refl _ | apply Bel.ext | apply Bel.alloc | apply Bel.drew))) | exact Rd.bel (rd_of hM 11 rfl) (by (repeat (first | exact Bel.refl _ | apply Bel.ext | apply Bel.alloc | apply Bel.drew))))); rintro ee ww ⟨rfl, _, rfl, hM⟩) | (go_at_call 82; refine Calls.mono (mem_ret hM ?_ (S1.out _ _ ?_)) ?_; (focus (repeat (first | exact Bel.refl _ | apply Bel.ext | apply Bel.alloc | apply Bel.drew))); (focus (first | exact Rd.bel (rd_of hM 0 rfl) (by (repeat (first | exact Bel.refl _ | apply Bel.ext | apply Bel.alloc | apply Bel.drew))) | exact Rd.bel (rd_of hM 1 rfl) (by (repeat (first | exact Bel.refl _ | apply Bel.ext | apply Bel.alloc | apply Bel.drew))) | exact Rd.bel (rd_of hM 2 rfl) (by (repeat (first | exact Bel.refl _ | apply Bel.ext | apply Bel.alloc | apply Bel.drew))) | exact Rd.bel (rd_of hM 3 rfl) (by (repeat (first | exact Bel.refl _ | apply Bel.ext | apply Bel.alloc | apply Bel.drew))) | exact Rd.bel (rd_of hM 4 rfl) (by (repeat (first | exact Bel.refl _ | apply Bel.ext | apply Bel.alloc | apply Bel.drew))) | exact Rd.bel (rd_of hM 5 rfl) (by (repeat (first | exact Bel.refl _ | apply Bel.ext | apply Bel.alloc | apply Bel.drew))) | exact Rd.bel (rd_of hM 6 rfl) (by (repeat (first | exact Bel.refl _ | apply Bel.ext | apply Bel.alloc | apply Bel.drew))) | exact Rd.bel (rd_of hM 7 rfl) (by (repeat (first | exact Bel.refl _ | apply Bel.ext | apply Bel.alloc | apply Bel.drew))) | exact Rd.bel (rd_of hM 8 rfl) (by (repeat (first | exact Bel.refl _ | apply Bel.ext | apply Bel.alloc | apply Bel.drew))) | exact Rd.bel (rd_of hM 9 rfl) (by (repeat (first | exact Bel.refl _ | apply Bel.ext | apply Bel.alloc | apply Bel.drew))) | exact Rd.bel (rd_of hM 10 rfl) (by (repeat (first | exact Bel.refl _ | apply Bel.ext | apply Bel.alloc | apply Bel.drew))) | exact Rd.bel (rd_of hM 11 rfl) (by (repeat (first | exact Bel.refl _ | apply Bel.ext | apply Bel.alloc | apply Bel.drew))))); rintro ee ww ⟨rfl, _, rfl, hM⟩) | (go_at_call 60; refine Calls.mono (mem_ret hM ?_ (l02Make_c _ _ (by omega) (by omega) (by omega) (by omega) _)) ?_; (focus (repeat (first | exact Bel.refl _ | apply Bel.ext | apply Bel.alloc | apply Bel.drew))); rintro ee ww ⟨rfl, _, rfl, hM⟩))
      refine bodyPost_ret (v := .tuple #[.agg #[.int .i64 (fracN (T * D - N * C) (k * D)), .int .i64 (fracD (T * D - N * C) (k * D))], .agg #[.int .i64 (fracN N D), .int .i64 (fracD N D)], .int .i64 0]) (by simp [results, Try.results69, go_sem]) rfl (Ret.mk ?_ (?_ : Bel _ _))
      · exact H.out
      · (repeat (first | exact Bel.refl _ | apply Bel.ext | apply Bel.alloc | apply Bel.drew | refine Bel.set ?_ (by first | (simp; done) | (simp [go_sem]; done) | omega) _))
end Go.Proofs.Ytlnpfggcmjljbaa
