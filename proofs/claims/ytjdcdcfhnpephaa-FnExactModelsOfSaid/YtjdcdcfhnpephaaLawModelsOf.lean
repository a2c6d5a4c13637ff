/- 'FnExactModelsOf' returns true, whatever the grid; no condition. -/
import Derived.Test.YtjdcdcfhnpephaaOpenG
namespace Go.Proofs.Ytjdcdcfhnpephaa.lawModelsOf
open Go.ChangeShapes Go.WideShapes Go.ChangeAt Go.RowKit

set_option maxRecDepth 100000 in
set_option maxHeartbeats 4000000 in
theorem walk (a1 : Option Addr) (n1 c1 : Nat) (A : List Int) (a2 : Option Addr) (n2 c2 : Nat) (B : List Int) (a3 : Option Addr) (n3 c3 : Nat) (C : List Int) (w : World) (hs1 : Sl celI w a1 n1 c1 A) (hs2 : Sl celI w a2 n2 c2 B) (hs3 : Sl celI w a3 n3 c3 C) :
    Calls Try.prog 10 #[.agg #[.slice a1 n1 c1, .slice a2 n2 c2, .slice a3 n3 c3]] w (Ret (.bool true) w) := by
  refine hide_ret fun v H => ?_
  have l1 := hs1.le; have l2 := hs2.le; have l3 := hs3.le
  have m1 := hs1.cap; have m2 := hs2.cap; have m3 := hs3.cap
  unfold maxLen at m1 m2 m3
  have e1 := hs1.len; have e2 := hs2.len; have e3 := hs3.len
  have hlen := modelsI_len A B C
  have S1 := Lib.hid (fun u1 u2 u3 w h1 h2 h3 => sModelsOf_c u1 u2 u3 A B C w h1 h2 h3)
  have S2 := Lib.hid (fun u1 u2 u3 w h1 h2 h3 => ModelsOf_c u1 u2 u3 A B C w h1 h2 h3)
  generalize modelsI A B C = s at *
  obtain ⟨ys, code⟩ := s
  dsimp only at hlen S1 S2
  have hcode : (code != code) = false := by simp
  have HS := Lib.hid (fun w => szGrid_c a1 a2 a3 n1 c1 n2 c2 n3 c3 1048576 (by omega) (by omega) (by omega) (by omega) (by omega) w)
  by_cases hn : (1048576 : Int) < (n1 : Int) + n2 + n3
  · rw [if_pos hn] at HS
    clear e1 e2 e3
    go_enter Try.func10, Try.ntmps10
    go_wp2_with (first | (go_at_call 35; refine Calls.mono (HS.out _) ?_; rintro ee ww ⟨rfl, _, rfl⟩))
    go_ret
    refine Ret.mk ?_ (?_ : Bel _ _)
    · exact H.out
    · (repeat (first | with_reducible exact Bel.refl _ | with_reducible assumption | apply Bel.ext | apply Bel.alloc | apply Bel.drew | exact Bel.refl _ | refine Bel.set ?_ (by first | (simp; done) | (simp [go_sem]; done) | omega) _))
  rw [if_neg hn] at HS
  have L1 : A.length ≤ 1000000000 := by rw [← e1]; omega
  have L2 : B.length ≤ 1000000000 := by rw [← e2]; omega
  have L3 : C.length ≤ 1000000000 := by rw [← e3]; omega
  have hsz : ¬ (1048576 : Int) - n1 - n2 - n3 < 0 := by omega
  clear e1 e2 e3
  go_enter Try.func10, Try.ntmps10
  go_wp2_with fail
  have hwA : Bel w (w.alloc (.cells #[.slice a1 n1 c1, .slice a2 n2 c2, .slice a3 n3 c3] 58)) := by (repeat (first | with_reducible exact Bel.refl _ | with_reducible assumption | apply Bel.ext | apply Bel.alloc | apply Bel.drew | exact Bel.refl _ | refine Bel.set ?_ (by first | (simp; done) | (simp [go_sem]; done) | omega) _))
  have hc0 : (w.alloc (.cells #[.slice a1 n1 c1, .slice a2 n2 c2, .slice a3 n3 c3] 58)).cell? ⟨w.heap.size, 0, none⟩ = some (.slice a1 n1 c1) := by simp [go_sem]
  have hc1 : (w.alloc (.cells #[.slice a1 n1 c1, .slice a2 n2 c2, .slice a3 n3 c3] 58)).cell? ⟨w.heap.size, 1, none⟩ = some (.slice a2 n2 c2) := by simp [go_sem]
  have hc2 : (w.alloc (.cells #[.slice a1 n1 c1, .slice a2 n2 c2, .slice a3 n3 c3] 58)).cell? ⟨w.heap.size, 2, none⟩ = some (.slice a3 n3 c3) := by simp [go_sem]
  have hz : w.heap.size < (w.alloc (.cells #[.slice a1 n1 c1, .slice a2 n2 c2, .slice a3 n3 c3] 58)).heap.size := by simp
  generalize w.alloc (.cells #[.slice a1 n1 c1, .slice a2 n2 c2, .slice a3 n3 c3] 58) = X at *
  have r1 := (hs1.bel hwA).rd
  have r2 := (hs2.bel hwA).rd
  have r3 := (hs3.bel hwA).rd
  clear hs1 hs2 hs3
  have hM := mem_nil X
  refine Calls.mono (mem_ret hM ?_ (HS.out _)) ?_
  · (repeat (first | with_reducible exact Bel.refl _ | with_reducible assumption | apply Bel.ext | apply Bel.alloc | apply Bel.drew | exact Bel.refl _ | refine Bel.set ?_ (by first | (simp; done) | (simp [go_sem]; done) | omega) _))
  rintro ee ww ⟨rfl, g0, rfl, hM⟩
  go_wp2_with fail
  refine Calls.mono (mem_grid hM ?_ (toGrid_c _ _ _ A B C _ (r1.bel ?_) (r2.bel ?_) (r3.bel ?_) L1 L2 L3)) ?_
  · (repeat (first | with_reducible exact Bel.refl _ | with_reducible assumption | apply Bel.ext | apply Bel.alloc | apply Bel.drew | exact Bel.refl _ | refine Bel.set ?_ (by first | (simp; done) | (simp [go_sem]; done) | omega) _))
  · (repeat (first | with_reducible exact Bel.refl _ | with_reducible assumption | apply Bel.ext | apply Bel.alloc | apply Bel.drew | exact Bel.refl _ | refine Bel.set ?_ (by first | (simp; done) | (simp [go_sem]; done) | omega) _))
  · (repeat (first | with_reducible exact Bel.refl _ | with_reducible assumption | apply Bel.ext | apply Bel.alloc | apply Bel.drew | exact Bel.refl _ | refine Bel.set ?_ (by first | (simp; done) | (simp [go_sem]; done) | omega) _))
  · (repeat (first | with_reducible exact Bel.refl _ | with_reducible assumption | apply Bel.ext | apply Bel.alloc | apply Bel.drew | exact Bel.refl _ | refine Bel.set ?_ (by first | (simp; done) | (simp [go_sem]; done) | omega) _))
  rintro ee ww ⟨x1, x2, x3, g1, rfl, rfl, hM⟩
  simp only [List.nil_append] at hM
  go_wp2_with fail
  refine Calls.mono (mem_row hM ?_ (S1.out _ _ _ _ (Rd.bel (rd_of hM 0 rfl) ?_) (Rd.bel (rd_of hM 1 rfl) ?_) (Rd.bel (rd_of hM 2 rfl) ?_))) ?_
  · (repeat (first | with_reducible exact Bel.refl _ | with_reducible assumption | apply Bel.ext | apply Bel.alloc | apply Bel.drew | exact Bel.refl _ | refine Bel.set ?_ (by first | (simp; done) | (simp [go_sem]; done) | omega) _))
  · (repeat (first | with_reducible exact Bel.refl _ | with_reducible assumption | apply Bel.ext | apply Bel.alloc | apply Bel.drew | exact Bel.refl _ | refine Bel.set ?_ (by first | (simp; done) | (simp [go_sem]; done) | omega) _))
  · (repeat (first | with_reducible exact Bel.refl _ | with_reducible assumption | apply Bel.ext | apply Bel.alloc | apply Bel.drew | exact Bel.refl _ | refine Bel.set ?_ (by first | (simp; done) | (simp [go_sem]; done) | omega) _))
  · (repeat (first | with_reducible exact Bel.refl _ | with_reducible assumption | apply Bel.ext | apply Bel.alloc | apply Bel.drew | exact Bel.refl _ | refine Bel.set ?_ (by first | (simp; done) | (simp [go_sem]; done) | omega) _))
  rintro ee ww ⟨v0, g2, rfl, rfl, hM⟩
  simp only [List.cons_append, List.nil_append] at hM
  go_wp2_with fail
  refine Calls.mono (mem_grid hM ?_ (toGrid_c _ _ _ A B C _ (r1.bel ?_) (r2.bel ?_) (r3.bel ?_) L1 L2 L3)) ?_
  · (repeat (first | with_reducible exact Bel.refl _ | with_reducible assumption | apply Bel.ext | apply Bel.alloc | apply Bel.drew | exact Bel.refl _ | refine Bel.set ?_ (by first | (simp; done) | (simp [go_sem]; done) | omega) _))
  · (repeat (first | with_reducible exact Bel.refl _ | with_reducible assumption | apply Bel.ext | apply Bel.alloc | apply Bel.drew | exact Bel.refl _ | refine Bel.set ?_ (by first | (simp; done) | (simp [go_sem]; done) | omega) _))
  · (repeat (first | with_reducible exact Bel.refl _ | with_reducible assumption | apply Bel.ext | apply Bel.alloc | apply Bel.drew | exact Bel.refl _ | refine Bel.set ?_ (by first | (simp; done) | (simp [go_sem]; done) | omega) _))
  · (repeat (first | with_reducible exact Bel.refl _ | with_reducible assumption | apply Bel.ext | apply Bel.alloc | apply Bel.drew | exact Bel.refl _ | refine Bel.set ?_ (by first | (simp; done) | (simp [go_sem]; done) | omega) _))
  rintro ee ww ⟨y1, y2, y3, g3, rfl, rfl, hM⟩
  simp only [List.cons_append, List.nil_append] at hM
  obtain ⟨p1, d1, hy1, -, -⟩ := own_len (hM.own 4 _ rfl)
  obtain ⟨p2, d2, hy2, -, -⟩ := own_len (hM.own 5 _ rfl)
  obtain ⟨p3, d3, hy3, -, -⟩ := own_len (hM.own 6 _ rfl)
  dsimp only at hy1 hy2 hy3
  subst hy1 hy2 hy3
  have hMx : Mem X ((ext X g3).alloc (.cells #[.slice p1 A.length d1, .slice p2 B.length d2, .slice p3 C.length d3] 63)) _ := mem_lit hM 63 3 [.slice p1 A.length d1, .slice p2 B.length d2, .slice p3 C.length d3] 1 rfl (by unfold maxLen; omega)
  clear hM
  have hM := hMx
  clear hMx
  simp only [List.cons_append, List.nil_append] at hM
  go_wp2_with fail
  generalize (ext X g3).heap.size = q at *
  refine Calls.mono (mem_row hM ?_ (S2.out _ _ _ _ (Rd.bel (rd_of hM 4 rfl) ?_) (Rd.bel (rd_of hM 5 rfl) ?_) (Rd.bel (rd_of hM 6 rfl) ?_))) ?_
  · (repeat (first | with_reducible exact Bel.refl _ | with_reducible assumption | apply Bel.ext | apply Bel.alloc | apply Bel.drew | exact Bel.refl _ | refine Bel.set ?_ (by first | (simp; done) | (simp [go_sem]; done) | omega) _))
  · (repeat (first | with_reducible exact Bel.refl _ | with_reducible assumption | apply Bel.ext | apply Bel.alloc | apply Bel.drew | exact Bel.refl _ | refine Bel.set ?_ (by first | (simp; done) | (simp [go_sem]; done) | omega) _))
  · (repeat (first | with_reducible exact Bel.refl _ | with_reducible assumption | apply Bel.ext | apply Bel.alloc | apply Bel.drew | exact Bel.refl _ | refine Bel.set ?_ (by first | (simp; done) | (simp [go_sem]; done) | omega) _))
  · (repeat (first | with_reducible exact Bel.refl _ | with_reducible assumption | apply Bel.ext | apply Bel.alloc | apply Bel.drew | exact Bel.refl _ | refine Bel.set ?_ (by first | (simp; done) | (simp [go_sem]; done) | omega) _))
  rintro ee ww ⟨v1, g4, rfl, rfl, hM⟩
  simp only [List.cons_append, List.nil_append] at hM
  have hq1 : decide (ys = ys) = true := by simp
  go_wp2_with (first | (go_at_call 39; refine Calls.mono (mem_ret hM ?_ (eqModelS_c _ _ ys ys _ (Rd.bel (rd_of hM 8 rfl) ?_) (Rd.bel (rd_of hM 3 rfl) ?_))) ?_; (focus (repeat (first | with_reducible exact Bel.refl _ | with_reducible assumption | apply Bel.ext | apply Bel.alloc | apply Bel.drew | exact Bel.refl _))); (focus (repeat (first | with_reducible exact Bel.refl _ | with_reducible assumption | apply Bel.ext | apply Bel.alloc | apply Bel.drew | exact Bel.refl _))); (focus (repeat (first | with_reducible exact Bel.refl _ | with_reducible assumption | apply Bel.ext | apply Bel.alloc | apply Bel.drew | exact Bel.refl _))); rintro ee ww ⟨rfl, _, rfl, hM⟩))
  obtain ⟨o1, o2, o3, o4, o5⟩ := mem_seen hM 7 rfl (by omega)
  have F0 := o1 0 _ rfl
  have F1 := o1 1 _ rfl
  have F2 := o1 2 _ rfl
  clear o1
  go_region_held3 (fun x => x.cell? ⟨q, 0, none⟩ = some (.slice p1 A.length d1) ∧ x.cell? ⟨q, 1, none⟩ = some (.slice p2 B.length d2) ∧ x.cell? ⟨q, 2, none⟩ = some (.slice p3 C.length d3) ∧ x.cell? ⟨w.heap.size, 0, none⟩ = some (.slice a1 n1 c1) ∧ x.cell? ⟨w.heap.size, 1, none⟩ = some (.slice a2 n2 c2) ∧ x.cell? ⟨w.heap.size, 2, none⟩ = some (.slice a3 n3 c3)) (simp [go_sem, *]) (first | (go_at_call 37; refine Calls.mono (toGrid_c _ _ _ A B C _ (r1.bel ?_) (r2.bel ?_) (r3.bel ?_) L1 L2 L3) ?_; (focus (repeat (first | with_reducible exact Bel.refl _ | with_reducible assumption | apply Bel.ext | apply Bel.alloc | apply Bel.drew | exact Bel.refl _))); (focus (repeat (first | with_reducible exact Bel.refl _ | with_reducible assumption | apply Bel.ext | apply Bel.alloc | apply Bel.drew | exact Bel.refl _))); (focus (repeat (first | with_reducible exact Bel.refl _ | with_reducible assumption | apply Bel.ext | apply Bel.alloc | apply Bel.drew | exact Bel.refl _))); rintro ee ww ⟨z1, z2, z3, g5, rfl, rfl, hMt⟩) | (go_at_call 40; refine Calls.mono (eqGrid_c _ _ _ _ _ _ A B C _ (Rd.bel (rd_of hM 4 rfl) ?_) (Rd.bel (rd_of hM 5 rfl) ?_) (Rd.bel (rd_of hM 6 rfl) ?_) (Rd.bel (rd_of hMt 0 rfl) ?_) (Rd.bel (rd_of hMt 1 rfl) ?_) (Rd.bel (rd_of hMt 2 rfl) ?_)) ?_; (focus (repeat (first | with_reducible exact Bel.refl _ | with_reducible assumption | apply Bel.ext | apply Bel.alloc | apply Bel.drew | exact Bel.refl _))); (focus (repeat (first | with_reducible exact Bel.refl _ | with_reducible assumption | apply Bel.ext | apply Bel.alloc | apply Bel.drew | exact Bel.refl _))); (focus (repeat (first | with_reducible exact Bel.refl _ | with_reducible assumption | apply Bel.ext | apply Bel.alloc | apply Bel.drew | exact Bel.refl _))); (focus (repeat (first | with_reducible exact Bel.refl _ | with_reducible assumption | apply Bel.ext | apply Bel.alloc | apply Bel.drew | exact Bel.refl _))); (focus (repeat (first | with_reducible exact Bel.refl _ | with_reducible assumption | apply Bel.ext | apply Bel.alloc | apply Bel.drew | exact Bel.refl _))); (focus (repeat (first | with_reducible exact Bel.refl _ | with_reducible assumption | apply Bel.ext | apply Bel.alloc | apply Bel.drew | exact Bel.refl _))); rintro ee ww ⟨rfl, _, rfl⟩))
  all_goals
    go_wp2_with fail
    refine Calls.mono (markGrid_c X _ _ (mem_bel hM ?_) 4 _ _ _ 2 A.length B.length C.length _ _ _ rfl rfl rfl L1 L2 L3) ?_
    · (repeat (first | with_reducible exact Bel.refl _ | with_reducible assumption | apply Bel.ext | apply Bel.alloc | apply Bel.drew | exact Bel.refl _ | refine Bel.set ?_ (by first | (simp; done) | (simp [go_sem]; done) | omega) _))
    rintro ee ww ⟨K, d4, d5, d6, g7, hK, rfl, rfl, hM⟩
    simp only [List.set_cons_zero, List.set_cons_succ] at hM
    go_wp2_with (first | (go_at_call 39; refine Calls.mono (mem_ret hM ?_ (eqModelS_c _ _ ys ys _ (Rd.bel (rd_of hM 8 rfl) ?_) (Rd.bel (rd_of hM 3 rfl) ?_))) ?_; (focus (repeat (first | with_reducible exact Bel.refl _ | with_reducible assumption | apply Bel.ext | apply Bel.alloc | apply Bel.drew | exact Bel.refl _))); (focus (repeat (first | with_reducible exact Bel.refl _ | with_reducible assumption | apply Bel.ext | apply Bel.alloc | apply Bel.drew | exact Bel.refl _))); (focus (repeat (first | with_reducible exact Bel.refl _ | with_reducible assumption | apply Bel.ext | apply Bel.alloc | apply Bel.drew | exact Bel.refl _))); rintro ee ww ⟨rfl, _, rfl, hM⟩) | (go_at_call 42; refine args_guard hM 8 rfl (by with_reducible rfl) ?_; refine Calls.mono (mem_mark hM ?_ 8 rfl (fun hM => markModelS_c _ _ ys.length _ 1 _ _ hM.bel (hM.own 8 _ rfl) (by omega) (by omega) (by omega))) ?_; (focus (repeat (first | with_reducible exact Bel.refl _ | with_reducible assumption | apply Bel.ext | apply Bel.alloc | apply Bel.drew | exact Bel.refl _))); rintro ee ww ⟨rfl, _, rfl, hM⟩; (try simp only [List.nil_append, List.cons_append, List.set_cons_zero, List.set_cons_succ] at hM)) | (go_at_call 43; refine args_guard hM 8 rfl (by with_reducible rfl) ?_; refine Calls.mono (mem_ret hM ?_ (heldModelS_c _ X.heap.size 25 ys.length 1 _ (own_bel (hM.own 8 _ rfl) ?_) (by omega) (by omega) (by omega))) ?_; (focus (repeat (first | with_reducible exact Bel.refl _ | with_reducible assumption | apply Bel.ext | apply Bel.alloc | apply Bel.drew | exact Bel.refl _))); (focus (repeat (first | with_reducible exact Bel.refl _ | with_reducible assumption | apply Bel.ext | apply Bel.alloc | apply Bel.drew | exact Bel.refl _))); rintro ee ww ⟨rfl, _, rfl, hM⟩))
    refine Calls.mono (mem_grid hM ?_ (toGrid_c _ _ _ A B C _ (r1.bel ?_) (r2.bel ?_) (r3.bel ?_) L1 L2 L3)) ?_
    · (repeat (first | with_reducible exact Bel.refl _ | with_reducible assumption | apply Bel.ext | apply Bel.alloc | apply Bel.drew | exact Bel.refl _ | refine Bel.set ?_ (by first | (simp; done) | (simp [go_sem]; done) | omega) _))
    · (repeat (first | with_reducible exact Bel.refl _ | with_reducible assumption | apply Bel.ext | apply Bel.alloc | apply Bel.drew | exact Bel.refl _ | refine Bel.set ?_ (by first | (simp; done) | (simp [go_sem]; done) | omega) _))
    · (repeat (first | with_reducible exact Bel.refl _ | with_reducible assumption | apply Bel.ext | apply Bel.alloc | apply Bel.drew | exact Bel.refl _ | refine Bel.set ?_ (by first | (simp; done) | (simp [go_sem]; done) | omega) _))
    · (repeat (first | with_reducible exact Bel.refl _ | with_reducible assumption | apply Bel.ext | apply Bel.alloc | apply Bel.drew | exact Bel.refl _ | refine Bel.set ?_ (by first | (simp; done) | (simp [go_sem]; done) | omega) _))
    rintro ee ww ⟨t1, t2, t3, g8, rfl, rfl, hM⟩
    simp only [List.cons_append, List.nil_append] at hM
    go_wp2_with fail
    refine Calls.mono (mem_row hM ?_ (S2.out _ _ _ _ (Rd.bel (rd_of hM 9 rfl) ?_) (Rd.bel (rd_of hM 10 rfl) ?_) (Rd.bel (rd_of hM 11 rfl) ?_))) ?_
    · (repeat (first | with_reducible exact Bel.refl _ | with_reducible assumption | apply Bel.ext | apply Bel.alloc | apply Bel.drew | exact Bel.refl _ | refine Bel.set ?_ (by first | (simp; done) | (simp [go_sem]; done) | omega) _))
    · (repeat (first | with_reducible exact Bel.refl _ | with_reducible assumption | apply Bel.ext | apply Bel.alloc | apply Bel.drew | exact Bel.refl _ | refine Bel.set ?_ (by first | (simp; done) | (simp [go_sem]; done) | omega) _))
    · (repeat (first | with_reducible exact Bel.refl _ | with_reducible assumption | apply Bel.ext | apply Bel.alloc | apply Bel.drew | exact Bel.refl _ | refine Bel.set ?_ (by first | (simp; done) | (simp [go_sem]; done) | omega) _))
    · (repeat (first | with_reducible exact Bel.refl _ | with_reducible assumption | apply Bel.ext | apply Bel.alloc | apply Bel.drew | exact Bel.refl _ | refine Bel.set ?_ (by first | (simp; done) | (simp [go_sem]; done) | omega) _))
    rintro ee ww ⟨v2, g9, rfl, rfl, hM⟩
    simp only [List.cons_append, List.nil_append] at hM
    go_wp2_with (first | (go_at_call 39; refine Calls.mono (mem_ret hM ?_ (eqModelS_c _ _ ys ys _ (Rd.bel (rd_of hM 12 rfl) ?_) (Rd.bel (rd_of hM 3 rfl) ?_))) ?_; (focus (repeat (first | with_reducible exact Bel.refl _ | with_reducible assumption | apply Bel.ext | apply Bel.alloc | apply Bel.drew | exact Bel.refl _))); (focus (repeat (first | with_reducible exact Bel.refl _ | with_reducible assumption | apply Bel.ext | apply Bel.alloc | apply Bel.drew | exact Bel.refl _))); (focus (repeat (first | with_reducible exact Bel.refl _ | with_reducible assumption | apply Bel.ext | apply Bel.alloc | apply Bel.drew | exact Bel.refl _))); rintro ee ww ⟨rfl, _, rfl, hM⟩) | (go_at_call 43; refine args_guard hM 8 rfl (by with_reducible rfl) ?_; refine Calls.mono (mem_ret hM ?_ (heldModelS_c _ X.heap.size 25 ys.length 1 _ (own_bel (hM.own 8 _ rfl) ?_) (by omega) (by omega) (by omega))) ?_; (focus (repeat (first | with_reducible exact Bel.refl _ | with_reducible assumption | apply Bel.ext | apply Bel.alloc | apply Bel.drew | exact Bel.refl _))); (focus (repeat (first | with_reducible exact Bel.refl _ | with_reducible assumption | apply Bel.ext | apply Bel.alloc | apply Bel.drew | exact Bel.refl _))); rintro ee ww ⟨rfl, _, rfl, hM⟩))
    go_ret
    refine ⟨H.out ▸ rfl, ext_ex ?_⟩
    exact Below.trans hwA (Below.mono ((Bel.refl X).ext _) hwA.size)

set_option maxRecDepth 100000 in
theorem lifted (os : Os) (started : os.Started) (H : Type) (enc : TypeId × Value → H) :
    ReturnsInHanded {} Try.checked os 10 .any (Rows.fnExactModelsOfSpec.pre6 enc Try.prog Try.f10 Rows.fnExactModelsOfRow.domain false) (Rows.fnExactModelsOfSpec.post enc Try.prog Try.f10 false true false false) := by
  refine returnsInHanded_of_change (C := Try.checked) own started (by kernel_rfl) Try.func10
    (ChangeSpec.witness6 (enc := enc) (C := Try.checked) false ⟨#[], #[.agg #[.slice none 0 0, .slice none 0 0, .slice none 0 0]], []⟩ 8 (by kernel_rfl) (by kernel_rfl) (by kernel_rfl) (by kernel_rfl)) ?_
  intro W base args ds gs before hval0 hW _ _
  have hval : ∀ (j : Nat) t v, Try.f10.params[j]? = some t → args[j]? = some v → Value.okWide Try.prog W .any base t v := hval0
  have hW' := hW
  obtain ⟨p, q, hA0, hV, rfl, hfz, hnd⟩ := hW
  have hA : DataW.TrodAll enc Try.prog W 0 (fun _ => true) true Try.f10.params.toList args.toList ds p := hA0
  have hlt : ∀ x ∈ p, x.block < W.heap.size := fun x hx => hW'.lt x (by simp [hx])
  rw [Try.params10] at hA hval
  have hK := hA
  obtain ⟨v0, vs0, d0, ds0, p0, q0, hargs, rfl, rfl, h0, r0⟩ := trodAll_cons hA
  obtain ⟨rfl, rfl, rfl⟩ := trodAll_nil r0
  obtain rfl : args = #[v0] := by cases args; simp_all
  obtain ⟨rfl, rfl⟩ := trodVars_none hV
  obtain ⟨c00, c01, c02, y00, y01, y02, m0, rfl, -, -, hy00, hy01, hy02⟩ := Go.Joins.open_agg3 Try.underlying58 (by kernel_rfl) (by kernel_rfl) (hval 0 58 v0 rfl rfl) h0
  obtain ⟨a00, n00, cp00, xs00, rfl, hs00⟩ := open_slF Try.underlying34 Try.underlying2 (by kernel_rfl) hy00
  obtain ⟨a01, n01, cp01, xs01, rfl, hs01⟩ := open_slF Try.underlying34 Try.underlying2 (by kernel_rfl) hy01
  obtain ⟨a02, n02, cp02, xs02, rfl, hs02⟩ := open_slF Try.underlying34 Try.underlying2 (by kernel_rfl) hy02
  refine (walk a00 n00 cp00 xs00 a01 n01 cp01 xs01 a02 n02 cp02 xs02 W hs00 hs01 hs02).mono fun e W' ⟨he, g, hg⟩ => ?_
  subst he
  have hb : Below W.heap.size W W' := by rw [hg]; exact ext_below W g
  have hARG := trodAll_below hb _ (by kernel_rfl) hlt hK
  exact ⟨_, rfl, [d0], [], _, [], p0 ++ ([]), [], hW', trodAll_cons_mk (shut_bool Try.underlying4 _) trodAll_mk0, hARG, rfl, hb.frame _, fun h => by cases h⟩

theorem over : Rows.fnExactModelsOfRow.holds Try.pinned (OpenSpec.ofChange Rows.fnExactModelsOfSpec) :=
  OpenClaim.holds_of_wide 10 Try.f10 rfl rfl rfl rfl rfl rfl rfl ⟨rfl, rfl, rfl, rfl, rfl⟩ rfl rfl rfl rfl rfl (by kernel_rfl) Try.func10 (by kernel_rfl)
    (of_decide_eq_true (by kernel_rfl)) (by unfold Func.isWrapper; first | (rw [if_pos (by decide +kernel)]; kernel_rfl) | (rw [if_neg (by decide +kernel)]; exact ⟨rfl, rfl⟩))
    (fun os started H enc _ => lifted os started H enc)

theorem proved : Rows.FnExactModelsOfSaid := over
end Go.Proofs.Ytjdcdcfhnpephaa.lawModelsOf
