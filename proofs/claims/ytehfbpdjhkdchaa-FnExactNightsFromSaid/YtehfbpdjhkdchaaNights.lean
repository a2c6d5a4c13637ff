/- The nights of some days: what both sides return. -/
import Derived.Test.YtehfbpdjhkdchaaBase
import Derived.Test.YtehfbpdjhkdchaaRowWindow
namespace Go.Proofs.Ytehfbpdjhkdchaa
open Go.RowKit

def nightL (day dusk dawn : Int) (n : Nat) : List (Int × Int) := (List.range n).map fun (i : Nat) => ((day + (i : Int)) * 10000 + dusk, (day + (i : Int) + 1) * 10000 + dawn)
theorem nightL_len (day dusk dawn : Int) (n : Nat) : (nightL day dusk dawn n).length = n := by simp [nightL]
theorem nightL_succ (day dusk dawn : Int) (n : Nat) : nightL day dusk dawn (n + 1) = nightL day dusk dawn n ++ [((day + (n : Int)) * 10000 + dusk, (day + (n : Int) + 1) * 10000 + dawn)] := by simp [nightL, List.range_succ]
def nightsB (day cnt dusk dawn : Int) : Bool := decide (0 ≤ day ∧ day ≤ 999 ∧ 0 ≤ cnt ∧ cnt ≤ 30 ∧ 0 ≤ dusk ∧ dusk ≤ 9999 ∧ 0 ≤ dawn ∧ dawn < dusk)
theorem nightsB_iff {day cnt dusk dawn : Int} : nightsB day cnt dusk dawn = true ↔ 0 ≤ day ∧ day ≤ 999 ∧ 0 ≤ cnt ∧ cnt ≤ 30 ∧ 0 ≤ dusk ∧ dusk ≤ 9999 ∧ 0 ≤ dawn ∧ dawn < dusk := by simp [nightsB]
theorem nightsB_false {day cnt dusk dawn : Int} (h : nightsB day cnt dusk dawn = false) : ¬ (0 ≤ day ∧ day ≤ 999 ∧ 0 ≤ cnt ∧ cnt ≤ 30 ∧ 0 ≤ dusk ∧ dusk ≤ 9999 ∧ 0 ≤ dawn ∧ dawn < dusk) := fun e => by rw [nightsB_iff.2 e] at h; cases h
def nightsI (day cnt dusk dawn : Int) : List (Int × Int) × Int :=
  if !nightsB day cnt dusk dawn then ([], 2) else if 0 < cnt ∧ 10000000 < (day + cnt) * 10000 + dawn then ([], 5) else (nightL day dusk dawn cnt.toNat, 0)
theorem nightsI_len (day cnt dusk dawn : Int) : (nightsI day cnt dusk dawn).1.length ≤ 30 := by
  unfold nightsI; split
  · simp
  · rename_i h; simp at h; have := nightsB_iff.1 h
    split <;> simp [nightL_len]; omega
set_option maxHeartbeats 4000000 in
theorem NightsFrom_c (day cnt dusk dawn : Int) (w : World) :
    Calls Try.prog 26 #[.int .i64 day, .int .i64 cnt, .int .i64 dusk, .int .i64 dawn] w (RetRow 44 2 (fun v => .tuple #[v, .int .i64 (nightsI day cnt dusk dawn).2]) (nightsI day cnt dusk dawn).1.length (cel2.row (nightsI day cnt dusk dawn).1) w) := by
  generalize hR : RetRow _ _ _ _ _ w = R
  have HR := Lib.hid hR
  clear hR
  rcases hB : nightsB day cnt dusk dawn with _ | _
  · simp only [nightsI, hB, Bool.not_true, Bool.not_false, Bool.true_or, Bool.or_true, Bool.false_or, Bool.or_false, Bool.true_and, Bool.and_true, Bool.false_and, Bool.and_false, if_true, if_false, Bool.false_eq_true] at HR
    rcases h1 : inB day 0 999 with _ | _ <;> rcases h2 : inB cnt 0 30 with _ | _ <;> rcases h3 : inB dusk 0 9999 with _ | _ <;> rcases h4 : inB dawn 0 (dusk - 1) with _ | _
    all_goals first
      | (exfalso
         have hB' := nightsB_false hB
         clear hB HR
         simp only [inB_iff, inB_false] at h1 h2 h3 h4
         omega)
      | (clear hB
         try have h3' := inB_iff.1 h3
         go_enter Try.func26, Try.ntmps26
         go_wp2_with (first | (go_at_call 51; refine (in_c _ _ _ _).mono ?_; rintro ee ww ⟨rfl, rfl⟩))
         rw [← HR.out]
         exact RetRow.mk' rfl (by (repeat (first | exact Bel.refl _ | apply Bel.ext | apply Bel.alloc | apply Bel.drew | refine Bel.set ?_ (by first | (simp; done) | (simp [go_sem]; done) | omega) _)) : Bel _ _) (World.ownsRow_nil _ _ _ _))
  · obtain ⟨d1, d2, c1, c2, u1, u2, n1, n2⟩ := nightsB_iff.1 hB
    have t1 : inB day 0 999 = true := inB_iff.2 ⟨d1, d2⟩
    have t2 : inB cnt 0 30 = true := inB_iff.2 ⟨c1, c2⟩
    have t3 : inB dusk 0 9999 = true := inB_iff.2 ⟨u1, u2⟩
    have t4 : inB dawn 0 (dusk - 1) = true := inB_iff.2 ⟨by omega, by omega⟩
    have t5 : IntKind.i64.wrap (dusk - 1) = dusk - 1 := IntWalk.i64_in _ (by omega)
    simp only [nightsI, hB, Bool.not_true, Bool.not_false, Bool.true_or, Bool.or_true, Bool.false_or, Bool.or_false, Bool.true_and, Bool.and_true, Bool.false_and, Bool.and_false, if_true, if_false, Bool.false_eq_true] at HR
    clear hB
    go_enter Try.func26, Try.ntmps26
    go_wp2_with (first | (go_at_call 51; refine (in_c _ _ _ _).mono ?_; rintro ee ww ⟨rfl, rfl⟩))
    go_loopw [10, 35] (fun o i wr => ∃ k : Nat, (k : Int) ≤ cnt ∧ (k = 0 ∨ (day + k) * 10000 + dawn ≤ 10000000) ∧ i = .int .i64 k ∧ Bel w wr ∧ Hid (wr.ownsRow w.heap.size 44 2 o k (cel2.row (nightL day dusk dawn k)))) (fun _ i _ => cnt.toNat - (intOf i).toNat)
    case atStart => exact ⟨0, by omega, .inl rfl, by go_num, by (repeat (first | exact Bel.refl _ | apply Bel.ext | apply Bel.alloc | apply Bel.drew | refine Bel.set ?_ (by first | (simp; done) | (simp [go_sem]; done) | omega) _)), Lib.hid (by refine own_empty _ _ _ _ ?_; exact (by (repeat (first | exact Bel.refl _ | apply Bel.ext | apply Bel.alloc | apply Bel.drew | refine Bel.set ?_ (by first | (simp; done) | (simp [go_sem]; done) | omega) _)) : Bel w _).size)⟩
    case round =>
      obtain ⟨k, hk, hbad, rfl, hbel, hown⟩ := hrel
      obtain ⟨g, rfl⟩ := ext_ex hbel
      by_cases hlt : (k : Int) < cnt
      · clear hbad
        by_cases hx : 10000000 < (day + k + 1) * 10000 + dawn
        · go_wp2
          have hb : 0 < cnt ∧ 10000000 < (day + cnt) * 10000 + dawn := by omega
          have h := HR.out
          rw [if_pos hb] at h
          rw [← h]
          exact RetRow.mk' rfl (by (repeat (first | exact Bel.refl _ | apply Bel.ext | apply Bel.alloc | apply Bel.drew | refine Bel.set ?_ (by first | (simp; done) | (simp [go_sem]; done) | omega) _)) : Bel _ _) (World.ownsRow_nil _ _ _ _)
        · go_wp2_with (first | (at_builtin; refine wpList_append_new rfl (.tmp 55) (.tmp 57) 25 44 2 16 rfl appWindow (by decide) w _ _ _ 1 [.int .i64 ((day + k) * 10000 + dusk), .int .i64 ((day + k + 1) * 10000 + dawn)] rfl (by first | with_reducible rfl | (simp [go_sem]; done)) rfl (by intro u hu; simp at hu; first | (subst hu; rfl) | (rcases hu with rfl | rfl <;> rfl) | (rcases hu with rfl | rfl | rfl <;> rfl)) (own_bel hown.out ?_) ?_ (by omega) (by omega) ?_; (focus (repeat (first | exact Bel.refl _ | apply Bel.ext | apply Bel.alloc | apply Bel.drew))); (focus (repeat (first | exact Bel.refl _ | apply Bel.ext | apply Bel.alloc | apply Bel.drew))); intro v2 g2 hown2 hgr2))
          go_roundw
          case rel =>
            refine ⟨k + 1, by omega, .inr (by omega), by go_num, by (repeat (first | exact Bel.refl _ | apply Bel.ext | apply Bel.alloc | apply Bel.drew | refine Bel.set ?_ (by first | (simp; done) | (simp [go_sem]; done) | omega) _)), Lib.hid ?_⟩
            rw [nightL_succ, Cel.row_append, Cel.row_one]; exact hown2
          case measure => simp [intOf]; omega
      · have hk' : (k : Int) = cnt := by omega
        have hb : ¬ (0 < cnt ∧ 10000000 < (day + cnt) * 10000 + dawn) := by omega
        have h := HR.out
        rw [if_neg hb] at h
        simp only [nightL_len] at h
        have hk'' : cnt.toNat = k := by omega
        rw [hk''] at h
        have HR2 := Lib.hid h
        clear h hb hk'' hbad HR
        go_wp2
        rw [← HR2.out]
        exact RetRow.mk' rfl (by (repeat (first | exact Bel.refl _ | apply Bel.ext | apply Bel.alloc | apply Bel.drew | refine Bel.set ?_ (by first | (simp; done) | (simp [go_sem]; done) | omega) _)) : Bel _ _) hown.out
set_option maxHeartbeats 4000000 in
theorem sNightsFrom_c (day cnt dusk dawn : Int) (w : World) :
    Calls Try.prog 25 #[.int .i64 day, .int .i64 cnt, .int .i64 dusk, .int .i64 dawn] w (RetRow 44 2 (fun v => .tuple #[v, .int .i64 (nightsI day cnt dusk dawn).2]) (nightsI day cnt dusk dawn).1.length (cel2.row (nightsI day cnt dusk dawn).1) w) := by
  generalize hR : RetRow _ _ _ _ _ w = R
  have HR := Lib.hid hR
  clear hR
  rcases hB : nightsB day cnt dusk dawn with _ | _
  · simp only [nightsI, hB, Bool.not_true, Bool.not_false, Bool.true_or, Bool.or_true, Bool.false_or, Bool.or_false, Bool.true_and, Bool.and_true, Bool.false_and, Bool.and_false, if_true, if_false, Bool.false_eq_true] at HR
    rcases h1 : inB day 0 999 with _ | _ <;> rcases h2 : inB cnt 0 30 with _ | _ <;> rcases h3 : inB dusk 0 9999 with _ | _ <;> rcases h4 : inB dawn 0 9999 with _ | _ <;> by_cases h5 : dusk ≤ dawn
    all_goals first
      | (exfalso
         have hB' := nightsB_false hB
         clear hB HR
         simp only [inB_iff, inB_false] at h1 h2 h3 h4
         omega)
      | (clear hB
         try have h3' := inB_iff.1 h3
         go_enter Try.func25, Try.ntmps25
         go_wp2_with (first | (go_at_call 50; refine (l00In_c _ _ _ _).mono ?_; rintro ee ww ⟨rfl, rfl⟩))
         rw [← HR.out]
         exact RetRow.mk' rfl (by (repeat (first | exact Bel.refl _ | apply Bel.ext | apply Bel.alloc | apply Bel.drew | refine Bel.set ?_ (by first | (simp; done) | (simp [go_sem]; done) | omega) _)) : Bel _ _) (World.ownsRow_nil _ _ _ _))
  · obtain ⟨d1, d2, c1, c2, u1, u2, n1, n2⟩ := nightsB_iff.1 hB
    have t1 : inB day 0 999 = true := inB_iff.2 ⟨d1, d2⟩
    have t2 : inB cnt 0 30 = true := inB_iff.2 ⟨c1, c2⟩
    have t3 : inB dusk 0 9999 = true := inB_iff.2 ⟨u1, u2⟩
    have t4 : inB dawn 0 9999 = true := inB_iff.2 ⟨by omega, by omega⟩
    simp only [nightsI, hB, Bool.not_true, Bool.not_false, Bool.true_or, Bool.or_true, Bool.false_or, Bool.or_false, Bool.true_and, Bool.and_true, Bool.false_and, Bool.and_false, if_true, if_false, Bool.false_eq_true] at HR
    clear hB
    go_enter Try.func25, Try.ntmps25
    go_wp2_with (first | (go_at_call 50; refine (l00In_c _ _ _ _).mono ?_; rintro ee ww ⟨rfl, rfl⟩))
    go_loopw [10, 11] (fun o i wr => ∃ k : Nat, (k : Int) ≤ cnt ∧ (k = 0 ∨ (day + k) * 10000 + dawn ≤ 10000000) ∧ i = .int .i64 k ∧ Bel w wr ∧ Hid (wr.ownsRow w.heap.size 44 2 o k (cel2.row (nightL day dusk dawn k)))) (fun _ i _ => cnt.toNat - (intOf i).toNat)
    case atStart => exact ⟨0, by omega, .inl rfl, by go_num, by (repeat (first | exact Bel.refl _ | apply Bel.ext | apply Bel.alloc | apply Bel.drew | refine Bel.set ?_ (by first | (simp; done) | (simp [go_sem]; done) | omega) _)), Lib.hid (by refine own_empty _ _ _ _ ?_; exact (by (repeat (first | exact Bel.refl _ | apply Bel.ext | apply Bel.alloc | apply Bel.drew | refine Bel.set ?_ (by first | (simp; done) | (simp [go_sem]; done) | omega) _)) : Bel w _).size)⟩
    case round =>
      obtain ⟨k, hk, hbad, rfl, hbel, hown⟩ := hrel
      obtain ⟨g, rfl⟩ := ext_ex hbel
      by_cases hlt : (k : Int) < cnt
      · clear hbad
        by_cases hx : 10000000 < (day + k + 1) * 10000 + dawn
        · go_wp2
          have hb : 0 < cnt ∧ 10000000 < (day + cnt) * 10000 + dawn := by omega
          have h := HR.out
          rw [if_pos hb] at h
          rw [← h]
          exact RetRow.mk' rfl (by (repeat (first | exact Bel.refl _ | apply Bel.ext | apply Bel.alloc | apply Bel.drew | refine Bel.set ?_ (by first | (simp; done) | (simp [go_sem]; done) | omega) _)) : Bel _ _) (World.ownsRow_nil _ _ _ _)
        · go_wp2_with (first | (at_builtin; refine wpList_append_new rfl (.tmp 59) (.tmp 61) 25 44 2 16 rfl appWindow (by decide) w _ _ _ 1 [.int .i64 ((day + k) * 10000 + dusk), .int .i64 ((day + k + 1) * 10000 + dawn)] rfl (by first | with_reducible rfl | (simp [go_sem]; done)) rfl (by intro u hu; simp at hu; first | (subst hu; rfl) | (rcases hu with rfl | rfl <;> rfl) | (rcases hu with rfl | rfl | rfl <;> rfl)) (own_bel hown.out ?_) ?_ (by omega) (by omega) ?_; (focus (repeat (first | exact Bel.refl _ | apply Bel.ext | apply Bel.alloc | apply Bel.drew))); (focus (repeat (first | exact Bel.refl _ | apply Bel.ext | apply Bel.alloc | apply Bel.drew))); intro v2 g2 hown2 hgr2))
          go_roundw
          case rel =>
            refine ⟨k + 1, by omega, .inr (by omega), by go_num, by (repeat (first | exact Bel.refl _ | apply Bel.ext | apply Bel.alloc | apply Bel.drew | refine Bel.set ?_ (by first | (simp; done) | (simp [go_sem]; done) | omega) _)), Lib.hid ?_⟩
            rw [nightL_succ, Cel.row_append, Cel.row_one]; exact hown2
          case measure => simp [intOf]; omega
      · have hk' : (k : Int) = cnt := by omega
        have hb : ¬ (0 < cnt ∧ 10000000 < (day + cnt) * 10000 + dawn) := by omega
        have h := HR.out
        rw [if_neg hb] at h
        simp only [nightL_len] at h
        have hk'' : cnt.toNat = k := by omega
        rw [hk''] at h
        have HR2 := Lib.hid h
        clear h hb hk'' hbad HR
        go_wp2
        rw [← HR2.out]
        exact RetRow.mk' rfl (by (repeat (first | exact Bel.refl _ | apply Bel.ext | apply Bel.alloc | apply Bel.drew | refine Bel.set ?_ (by first | (simp; done) | (simp [go_sem]; done) | omega) _)) : Bel _ _) hown.out
end Go.Proofs.Ytehfbpdjhkdchaa
