/- 'FnExactBestModel' returns true, whatever the grid, the ephemeris, the magnitude and the light curve; no condition. -/
import Derived.Test.YtjdcdcfhnpephaaBest2
import Derived.Test.YtjdcdcfhnpephaaGridH
import Derived.Test.YtjdcdcfhnpephaaGridM
import Derived.Test.YtjdcdcfhnpephaaRowPoint
namespace Go.Proofs.Ytjdcdcfhnpephaa.lawBestModel
open Go.ChangeShapes Go.WideShapes Go.ChangeAt Go.RowKit

theorem boxS {A Z V : World} {u v t z1 z2 z3 : Value} {e : TypeId} {q : Nat} {L : List Ent} (hq : Z.heap.size = q) (hM : Mem A Z L) (hV : Bel (Z.alloc (.cells #[z1, z2, z3] e)) V) :
    Mem A (((V.setCell ⟨q, 0, none⟩ u).setCell ⟨q, 1, none⟩ v).setCell ⟨q, 2, none⟩ t) (L ++ [⟨.slice (some ⟨q, 0, none⟩) 1 1, e, 3, 1, [u, v, t]⟩]) := by
  subst hq
  have h1 := mem_bel (mem_lit hM e 3 [z1, z2, z3] 1 rfl (by unfold maxLen; omega)) hV
  have hi : ∀ cs : List Value, (L ++ [(⟨.slice (some ⟨Z.heap.size, 0, none⟩) 1 1, e, 3, 1, cs⟩ : Ent)])[L.length]? = some ⟨.slice (some ⟨Z.heap.size, 0, none⟩) 1 1, e, 3, 1, cs⟩ := fun cs => by rw [List.getElem?_append_right (Nat.le_refl _), Nat.sub_self]; rfl
  have hs : ∀ (r r' : Ent), (L ++ [r]).set L.length r' = L ++ [r'] := fun r r' => by rw [List.set_append_right _ _ (Nat.le_refl _), Nat.sub_self]; rfl
  have h3 := mem_put1 h1 L.length (hi _) 0 u
  rw [hs] at h3
  have h4 := mem_put1 h3 L.length (hi _) 1 v
  rw [hs] at h4
  have h5 := mem_put1 h4 L.length (hi _) 2 t
  rw [hs] at h5
  exact h5
set_option maxRecDepth 100000 in
set_option maxHeartbeats 40000000 in
theorem walk (a1 : Option Addr) (n1 c1 : Nat) (A : List Int) (a2 : Option Addr) (n2 c2 : Nat) (B : List Int) (a3 : Option Addr) (n3 c3 : Nat) (C : List Int) (e p m : Int) (aa : Option Addr) (n cc : Nat) (xs : List (Int × Int)) (w : World) (hs1 : Sl celI w a1 n1 c1 A) (hs2 : Sl celI w a2 n2 c2 B) (hs3 : Sl celI w a3 n3 c3 C) (hs : Sl cel2 w aa n cc xs) :
    Calls Try.prog 11 #[.agg #[.slice a1 n1 c1, .slice a2 n2 c2, .slice a3 n3 c3], .agg #[.int .i64 e, .int .i64 p], .int .i64 m, .slice aa n cc] w (Ret (.bool true) w) := by
  refine hide_ret fun v H => ?_
  have l1 := hs1.le; have l2 := hs2.le; have l3 := hs3.le; have l4 := hs.le
  have m1 := hs1.cap; have m2 := hs2.cap; have m3 := hs3.cap; have m4 := hs.cap
  unfold maxLen at m1 m2 m3 m4
  have e1 := hs1.len; have e2 := hs2.len; have e3 := hs3.len; have e4 := hs.len
  have S1 := Lib.hid (fun u1 u2 u3 u w h1 h2 h3 hu => sBestModel_c u1 u2 u3 A B C e p m u xs w h1 h2 h3 hu)
  have S2 := Lib.hid (fun u1 u2 u3 u w h1 h2 h3 hu => BestModel_c u1 u2 u3 A B C e p m u xs w h1 h2 h3 hu)
  unfold bestV at S1 S2
  generalize bestI A B C e p m xs = s at *
  obtain ⟨⟨x, y, z⟩, code⟩ := s
  dsimp only at S1 S2
  have hcode : (code != code) = false := by simp
  have hxs : decide (xs = xs) = true := by simp
  have HEQ := Lib.hid (fun w => eqModel_c x y z x y z w)
  rw [show (x == x && y == y && z == z) = true by simp] at HEQ
  have HS := Lib.hid (fun w => szGrid_c a1 a2 a3 n1 c1 n2 c2 n3 c3 1048576 (by omega) (by omega) (by omega) (by omega) (by omega) w)
  by_cases hn : (1048576 : Int) < (n1 : Int) + n2 + n3
  · rw [if_pos hn] at HS
    clear e1 e2 e3 e4
    go_enter Try.func11, Try.ntmps11
    go_wp2_with (first | (go_at_call 35; refine Calls.mono (HS.out _) ?_; rintro ee ww ⟨rfl, _, rfl⟩))
    go_ret
    refine Ret.mk ?_ (?_ : Bel _ _)
    · exact H.out
    · (repeat (first | with_reducible exact Bel.refl _ | with_reducible assumption | apply Bel.ext | apply Bel.alloc | apply Bel.drew | exact Bel.refl _ | refine Bel.set ?_ (by first | (simp; done) | (simp [go_sem]; done) | omega) _))
  rw [if_neg hn] at HS
  have hsz : ¬ (1048576 : Int) - n1 - n2 - n3 < 0 := by omega
  have HZ := Lib.hid (fun w => szPointS_c aa n cc ((1048576 : Int) - n1 - n2 - n3) (by omega) (by omega) (by omega) w)
  by_cases hn4 : (1048576 : Int) - n1 - n2 - n3 < n
  · rw [if_pos hn4] at HZ
    clear e1 e2 e3 e4
    go_enter Try.func11, Try.ntmps11
    go_wp2_with (first | (go_at_call 35; refine Calls.mono (HS.out _) ?_; rintro ee ww ⟨rfl, _, rfl⟩) | (go_at_call 30; refine Calls.mono (HZ.out _) ?_; rintro ee ww ⟨rfl, rfl⟩))
    go_ret
    refine Ret.mk ?_ (?_ : Bel _ _)
    · exact H.out
    · (repeat (first | with_reducible exact Bel.refl _ | with_reducible assumption | apply Bel.ext | apply Bel.alloc | apply Bel.drew | exact Bel.refl _ | refine Bel.set ?_ (by first | (simp; done) | (simp [go_sem]; done) | omega) _))
  rw [if_neg hn4] at HZ
  have hsz4 : ¬ (1048576 : Int) - n1 - n2 - n3 - n < 0 := by omega
  have L1 : A.length ≤ 1000000000 := by rw [← e1]; omega
  have L2 : B.length ≤ 1000000000 := by rw [← e2]; omega
  have L3 : C.length ≤ 1000000000 := by rw [← e3]; omega
  have L4 : xs.length ≤ 1000000000 := by rw [← e4]; omega
  clear e1 e2 e3 e4
  go_enter Try.func11, Try.ntmps11
  go_wp2_with fail
  have hwA : Bel w ((w.alloc (.cells #[.slice a1 n1 c1, .slice a2 n2 c2, .slice a3 n3 c3] 58)).alloc (.cells #[.int .i64 e, .int .i64 p] 33)) := by (repeat (first | with_reducible exact Bel.refl _ | with_reducible assumption | apply Bel.ext | apply Bel.alloc | apply Bel.drew | exact Bel.refl _ | refine Bel.set ?_ (by first | (simp; done) | (simp [go_sem]; done) | omega) _))
  have hc0 : ((w.alloc (.cells #[.slice a1 n1 c1, .slice a2 n2 c2, .slice a3 n3 c3] 58)).alloc (.cells #[.int .i64 e, .int .i64 p] 33)).cell? ⟨w.heap.size, 0, none⟩ = some (.slice a1 n1 c1) := by simp [go_sem]
  have hc1 : ((w.alloc (.cells #[.slice a1 n1 c1, .slice a2 n2 c2, .slice a3 n3 c3] 58)).alloc (.cells #[.int .i64 e, .int .i64 p] 33)).cell? ⟨w.heap.size, 1, none⟩ = some (.slice a2 n2 c2) := by simp [go_sem]
  have hc2 : ((w.alloc (.cells #[.slice a1 n1 c1, .slice a2 n2 c2, .slice a3 n3 c3] 58)).alloc (.cells #[.int .i64 e, .int .i64 p] 33)).cell? ⟨w.heap.size, 2, none⟩ = some (.slice a3 n3 c3) := by simp [go_sem]
  have hc3 : ((w.alloc (.cells #[.slice a1 n1 c1, .slice a2 n2 c2, .slice a3 n3 c3] 58)).alloc (.cells #[.int .i64 e, .int .i64 p] 33)).cell? ⟨w.heap.size + 1, 0, none⟩ = some (.int .i64 e) := by simp [go_sem]
  have hc4 : ((w.alloc (.cells #[.slice a1 n1 c1, .slice a2 n2 c2, .slice a3 n3 c3] 58)).alloc (.cells #[.int .i64 e, .int .i64 p] 33)).cell? ⟨w.heap.size + 1, 1, none⟩ = some (.int .i64 p) := by simp [go_sem]
  have hz0 : w.heap.size < ((w.alloc (.cells #[.slice a1 n1 c1, .slice a2 n2 c2, .slice a3 n3 c3] 58)).alloc (.cells #[.int .i64 e, .int .i64 p] 33)).heap.size := by simp; omega
  have hz1 : w.heap.size + 1 < ((w.alloc (.cells #[.slice a1 n1 c1, .slice a2 n2 c2, .slice a3 n3 c3] 58)).alloc (.cells #[.int .i64 e, .int .i64 p] 33)).heap.size := by simp
  generalize (w.alloc (.cells #[.slice a1 n1 c1, .slice a2 n2 c2, .slice a3 n3 c3] 58)).alloc (.cells #[.int .i64 e, .int .i64 p] 33) = X at *
  generalize hq1 : w.heap.size + 1 = q1 at *
  have r1 := (hs1.bel hwA).rd
  have r2 := (hs2.bel hwA).rd
  have r3 := (hs3.bel hwA).rd
  have r4 := (hs.bel hwA).rd
  clear hs1 hs2 hs3 hs
  refine Calls.mono (HS.out _) ?_
  rintro ee ww ⟨rfl, g0, rfl⟩
  go_wp2_with (first | (go_at_call 30; refine Calls.mono (HZ.out _) ?_; rintro ee ww ⟨rfl, rfl⟩))
  go_region_held3 (fun q => q.cell? ⟨w.heap.size, 0, none⟩ = some (.slice a1 n1 c1) ∧ q.cell? ⟨w.heap.size, 1, none⟩ = some (.slice a2 n2 c2) ∧ q.cell? ⟨w.heap.size, 2, none⟩ = some (.slice a3 n3 c3) ∧ q.cell? ⟨q1, 0, none⟩ = some (.int .i64 e) ∧ q.cell? ⟨q1, 1, none⟩ = some (.int .i64 p)) (simp [go_sem, *]) (first | (go_at_call 37; refine Calls.mono (toGrid_c _ _ _ A B C _ (r1.bel ?_) (r2.bel ?_) (r3.bel ?_) L1 L2 L3) ?_; (focus (repeat (first | with_reducible exact Bel.refl _ | with_reducible assumption | apply Bel.ext | apply Bel.alloc | apply Bel.drew | exact Bel.refl _))); (focus (repeat (first | with_reducible exact Bel.refl _ | with_reducible assumption | apply Bel.ext | apply Bel.alloc | apply Bel.drew | exact Bel.refl _))); (focus (repeat (first | with_reducible exact Bel.refl _ | with_reducible assumption | apply Bel.ext | apply Bel.alloc | apply Bel.drew | exact Bel.refl _))); rintro ee ww ⟨z1, z2, z3, g5, rfl, rfl, hMt⟩) | (go_at_call 20; refine Calls.mono (toEphemeris_c _ _ _) ?_; rintro ee ww ⟨rfl, g6, rfl⟩) | (go_at_call 32; refine Calls.mono (toPointS_c _ xs _ (r4.bel ?_) L4) ?_; (focus (repeat (first | with_reducible exact Bel.refl _ | with_reducible assumption | apply Bel.ext | apply Bel.alloc | apply Bel.drew | exact Bel.refl _))); rintro ee ww ⟨v0, g7, rfl, rfl, hP⟩) | (go_at_call 44; refine Calls.mono (S1.out _ _ _ _ _ (Rd.bel (rd_of hMt 0 rfl) ?_) (Rd.bel (rd_of hMt 1 rfl) ?_) (Rd.bel (rd_of hMt 2 rfl) ?_) (Rd.bel (rd_of_row hP) ?_)) ?_; (focus (repeat (first | with_reducible exact Bel.refl _ | with_reducible assumption | apply Bel.ext | apply Bel.alloc | apply Bel.drew | exact Bel.refl _))); (focus (repeat (first | with_reducible exact Bel.refl _ | with_reducible assumption | apply Bel.ext | apply Bel.alloc | apply Bel.drew | exact Bel.refl _))); (focus (repeat (first | with_reducible exact Bel.refl _ | with_reducible assumption | apply Bel.ext | apply Bel.alloc | apply Bel.drew | exact Bel.refl _))); (focus (repeat (first | with_reducible exact Bel.refl _ | with_reducible assumption | apply Bel.ext | apply Bel.alloc | apply Bel.drew | exact Bel.refl _))); rintro ee ww ⟨rfl, g8, rfl⟩))
  all_goals
    have hM0 := mem_nil X
    first
      | (obtain ⟨q2, hq⟩ : ∃ q, (ext (ext (ext (ext X g0).drew g5) g6) g7).heap.size = q := ⟨_, rfl⟩; rw [hq]; have hB := boxS (u := .int .i64 x) (v := .int .i64 y) (t := .int .i64 z) (V := ext ((ext (ext (ext (ext X g0).drew g5) g6) g7).alloc (.cells #[.int .i64 0, .int .i64 0, .int .i64 0] 25)) g8) hq (mem_bel hM0 (by (repeat (first | with_reducible exact Bel.refl _ | with_reducible assumption | apply Bel.ext | apply Bel.alloc | apply Bel.drew | exact Bel.refl _ | refine Bel.set ?_ (by first | (simp; done) | (simp [go_sem]; done) | omega) _)) : Bel _ (ext (ext (ext (ext X g0).drew g5) g6) g7))) (by (repeat (first | with_reducible exact Bel.refl _ | with_reducible assumption | apply Bel.ext | apply Bel.alloc | apply Bel.drew | exact Bel.refl _ | refine Bel.set ?_ (by first | (simp; done) | (simp [go_sem]; done) | omega) _)) : Bel ((ext (ext (ext (ext X g0).drew g5) g6) g7).alloc (.cells #[.int .i64 0, .int .i64 0, .int .i64 0] 25)) _); clear hq; generalize (((ext ((ext (ext (ext (ext X g0).drew g5) g6) g7).alloc (.cells #[.int .i64 0, .int .i64 0, .int .i64 0] 25)) g8).setCell ⟨q2, 0, none⟩ (.int .i64 x)).setCell ⟨q2, 1, none⟩ (.int .i64 y)).setCell ⟨q2, 2, none⟩ (.int .i64 z) = Y at hB ⊢)
      | (obtain ⟨q2, hq⟩ : ∃ q, (ext (ext (ext X g0).drew g5) g6).heap.size = q := ⟨_, rfl⟩; rw [hq]; have hB := boxS (u := .int .i64 x) (v := .int .i64 y) (t := .int .i64 z) (V := ext (ext ((ext (ext (ext X g0).drew g5) g6).alloc (.cells #[.int .i64 0, .int .i64 0, .int .i64 0] 25)) g7) g8) hq (mem_bel hM0 (by (repeat (first | with_reducible exact Bel.refl _ | with_reducible assumption | apply Bel.ext | apply Bel.alloc | apply Bel.drew | exact Bel.refl _ | refine Bel.set ?_ (by first | (simp; done) | (simp [go_sem]; done) | omega) _)) : Bel _ (ext (ext (ext X g0).drew g5) g6))) (by (repeat (first | with_reducible exact Bel.refl _ | with_reducible assumption | apply Bel.ext | apply Bel.alloc | apply Bel.drew | exact Bel.refl _ | refine Bel.set ?_ (by first | (simp; done) | (simp [go_sem]; done) | omega) _)) : Bel ((ext (ext (ext X g0).drew g5) g6).alloc (.cells #[.int .i64 0, .int .i64 0, .int .i64 0] 25)) _); clear hq; generalize (((ext (ext ((ext (ext (ext X g0).drew g5) g6).alloc (.cells #[.int .i64 0, .int .i64 0, .int .i64 0] 25)) g7) g8).setCell ⟨q2, 0, none⟩ (.int .i64 x)).setCell ⟨q2, 1, none⟩ (.int .i64 y)).setCell ⟨q2, 2, none⟩ (.int .i64 z) = Y at hB ⊢)
      | (obtain ⟨q2, hq⟩ : ∃ q, (ext (ext X g0).drew g5).heap.size = q := ⟨_, rfl⟩; rw [hq]; have hB := boxS (u := .int .i64 x) (v := .int .i64 y) (t := .int .i64 z) (V := ext (ext (ext ((ext (ext X g0).drew g5).alloc (.cells #[.int .i64 0, .int .i64 0, .int .i64 0] 25)) g6) g7) g8) hq (mem_bel hM0 (by (repeat (first | with_reducible exact Bel.refl _ | with_reducible assumption | apply Bel.ext | apply Bel.alloc | apply Bel.drew | exact Bel.refl _ | refine Bel.set ?_ (by first | (simp; done) | (simp [go_sem]; done) | omega) _)) : Bel _ (ext (ext X g0).drew g5))) (by (repeat (first | with_reducible exact Bel.refl _ | with_reducible assumption | apply Bel.ext | apply Bel.alloc | apply Bel.drew | exact Bel.refl _ | refine Bel.set ?_ (by first | (simp; done) | (simp [go_sem]; done) | omega) _)) : Bel ((ext (ext X g0).drew g5).alloc (.cells #[.int .i64 0, .int .i64 0, .int .i64 0] 25)) _); clear hq; generalize (((ext (ext (ext ((ext (ext X g0).drew g5).alloc (.cells #[.int .i64 0, .int .i64 0, .int .i64 0] 25)) g6) g7) g8).setCell ⟨q2, 0, none⟩ (.int .i64 x)).setCell ⟨q2, 1, none⟩ (.int .i64 y)).setCell ⟨q2, 2, none⟩ (.int .i64 z) = Y at hB ⊢)
      | (obtain ⟨q2, hq⟩ : ∃ q, (ext X g0).heap.size = q := ⟨_, rfl⟩; rw [hq]; have hB := boxS (u := .int .i64 x) (v := .int .i64 y) (t := .int .i64 z) (V := ext (ext (ext (ext ((ext X g0).alloc (.cells #[.int .i64 0, .int .i64 0, .int .i64 0] 25)).drew g5) g6) g7) g8) hq (mem_bel hM0 (by (repeat (first | with_reducible exact Bel.refl _ | with_reducible assumption | apply Bel.ext | apply Bel.alloc | apply Bel.drew | exact Bel.refl _ | refine Bel.set ?_ (by first | (simp; done) | (simp [go_sem]; done) | omega) _)) : Bel _ (ext X g0))) (by (repeat (first | with_reducible exact Bel.refl _ | with_reducible assumption | apply Bel.ext | apply Bel.alloc | apply Bel.drew | exact Bel.refl _ | refine Bel.set ?_ (by first | (simp; done) | (simp [go_sem]; done) | omega) _)) : Bel ((ext X g0).alloc (.cells #[.int .i64 0, .int .i64 0, .int .i64 0] 25)) _); clear hq; generalize (((ext (ext (ext (ext ((ext X g0).alloc (.cells #[.int .i64 0, .int .i64 0, .int .i64 0] 25)).drew g5) g6) g7) g8).setCell ⟨q2, 0, none⟩ (.int .i64 x)).setCell ⟨q2, 1, none⟩ (.int .i64 y)).setCell ⟨q2, 2, none⟩ (.int .i64 z) = Y at hB ⊢)
      | (obtain ⟨q2, hq⟩ : ∃ q, (ext (ext (ext (ext (ext X g0).drew g5) g6) g7) g8).heap.size = q := ⟨_, rfl⟩; rw [hq]; have hB := mem_lit (mem_bel hM0 (by (repeat (first | with_reducible exact Bel.refl _ | with_reducible assumption | apply Bel.ext | apply Bel.alloc | apply Bel.drew | exact Bel.refl _ | refine Bel.set ?_ (by first | (simp; done) | (simp [go_sem]; done) | omega) _)) : Bel _ (ext (ext (ext (ext (ext X g0).drew g5) g6) g7) g8))) 25 3 [.int .i64 x, .int .i64 y, .int .i64 z] 1 rfl (by unfold maxLen; omega); rw [hq] at hB; clear hq; generalize (ext (ext (ext (ext (ext X g0).drew g5) g6) g7) g8).alloc (.cells #[.int .i64 x, .int .i64 y, .int .i64 z] 25) = Y at hB ⊢)
    obtain ⟨gY, hgY⟩ := ext_ex hB.bel
    subst hgY
    simp only [List.nil_append] at hB
    obtain ⟨o1, o2, o3, o4, o5⟩ := mem_seen hB 0 rfl (by omega)
    have HB := Lib.hid hB
    clear hM0 o1 hMt hP hB
    rename_i hHeld
    clear hHeld
    go_wp2_with fail
    refine Calls.mono (mem_grid HB.out ?_ (toGrid_c _ _ _ A B C _ (r1.bel ?_) (r2.bel ?_) (r3.bel ?_) L1 L2 L3)) ?_
    · (repeat (first | with_reducible exact Bel.refl _ | with_reducible assumption | apply Bel.ext | apply Bel.alloc | apply Bel.drew | exact Bel.refl _ | refine Bel.set ?_ (by first | (simp; done) | (simp [go_sem]; done) | omega) _))
    · (repeat (first | with_reducible exact Bel.refl _ | with_reducible assumption | apply Bel.ext | apply Bel.alloc | apply Bel.drew | exact Bel.refl _ | refine Bel.set ?_ (by first | (simp; done) | (simp [go_sem]; done) | omega) _))
    · (repeat (first | with_reducible exact Bel.refl _ | with_reducible assumption | apply Bel.ext | apply Bel.alloc | apply Bel.drew | exact Bel.refl _ | refine Bel.set ?_ (by first | (simp; done) | (simp [go_sem]; done) | omega) _))
    · (repeat (first | with_reducible exact Bel.refl _ | with_reducible assumption | apply Bel.ext | apply Bel.alloc | apply Bel.drew | exact Bel.refl _ | refine Bel.set ?_ (by first | (simp; done) | (simp [go_sem]; done) | omega) _))
    rintro ee ww ⟨y1, y2, y3, g20, rfl, rfl, hM⟩
    simp only [List.cons_append, List.nil_append] at hM
    obtain ⟨p1, d1, hy1, -, -⟩ := own_len (hM.own 1 _ rfl)
    obtain ⟨p2, d2, hy2, -, -⟩ := own_len (hM.own 2 _ rfl)
    obtain ⟨p3, d3, hy3, -, -⟩ := own_len (hM.own 3 _ rfl)
    dsimp only at hy1 hy2 hy3
    subst hy1 hy2 hy3
    have hMx : Mem X ((ext X g20).alloc (.cells #[.slice p1 A.length d1, .slice p2 B.length d2, .slice p3 C.length d3] 63)) _ := mem_lit hM 63 3 [.slice p1 A.length d1, .slice p2 B.length d2, .slice p3 C.length d3] 1 rfl (by unfold maxLen; omega)
    clear hM
    have hM := hMx
    clear hMx
    simp only [List.cons_append, List.nil_append] at hM
    go_wp2_with fail
    generalize (ext X g20).heap.size = q3 at *
    refine Calls.mono (mem_row hM ?_ (toPointS_c _ xs _ (r4.bel ?_) L4)) ?_
    · (repeat (first | with_reducible exact Bel.refl _ | with_reducible assumption | apply Bel.ext | apply Bel.alloc | apply Bel.drew | exact Bel.refl _ | refine Bel.set ?_ (by first | (simp; done) | (simp [go_sem]; done) | omega) _))
    · (repeat (first | with_reducible exact Bel.refl _ | with_reducible assumption | apply Bel.ext | apply Bel.alloc | apply Bel.drew | exact Bel.refl _ | refine Bel.set ?_ (by first | (simp; done) | (simp [go_sem]; done) | omega) _))
    rintro ee ww ⟨v1, g22, rfl, rfl, hM⟩
    simp only [List.cons_append, List.nil_append] at hM
    obtain ⟨p4, d4, hy4, -, -⟩ := own_len (hM.own 5 _ rfl)
    dsimp only at hy4
    subst hy4
    obtain ⟨o1, o2, o3, o4, o5⟩ := mem_seen hM 4 rfl (by omega)
    have F0 := o1 0 _ rfl
    have F1 := o1 1 _ rfl
    have F2 := o1 2 _ rfl
    clear o1
    go_wp2_with fail
    go_region_held3 (fun q => q.cell? ⟨q3, 0, none⟩ = some (.slice p1 A.length d1) ∧ q.cell? ⟨q3, 1, none⟩ = some (.slice p2 B.length d2) ∧ q.cell? ⟨q3, 2, none⟩ = some (.slice p3 C.length d3) ∧ q.cell? ⟨q1, 0, none⟩ = some (.int .i64 e) ∧ q.cell? ⟨q1, 1, none⟩ = some (.int .i64 p)) (simp [go_sem, *]) (first | (go_at_call 20; refine Calls.mono (toEphemeris_c _ _ _) ?_; rintro ee ww ⟨rfl, g26, rfl⟩) | (go_at_call 45; refine Calls.mono (S2.out _ _ _ _ _ (Rd.bel (rd_of hM 1 rfl) ?_) (Rd.bel (rd_of hM 2 rfl) ?_) (Rd.bel (rd_of hM 3 rfl) ?_) (Rd.bel (rd_of hM 5 rfl) ?_)) ?_; (focus (repeat (first | with_reducible exact Bel.refl _ | with_reducible assumption | apply Bel.ext | apply Bel.alloc | apply Bel.drew | exact Bel.refl _))); (focus (repeat (first | with_reducible exact Bel.refl _ | with_reducible assumption | apply Bel.ext | apply Bel.alloc | apply Bel.drew | exact Bel.refl _))); (focus (repeat (first | with_reducible exact Bel.refl _ | with_reducible assumption | apply Bel.ext | apply Bel.alloc | apply Bel.drew | exact Bel.refl _))); (focus (repeat (first | with_reducible exact Bel.refl _ | with_reducible assumption | apply Bel.ext | apply Bel.alloc | apply Bel.drew | exact Bel.refl _))); rintro ee ww ⟨rfl, g28, rfl⟩))
    all_goals
      first
        | (obtain ⟨q4, hq⟩ : ∃ q, (ext (ext X g22).drew g26).heap.size = q := ⟨_, rfl⟩; rw [hq]; have hB := boxS (u := .int .i64 x) (v := .int .i64 y) (t := .int .i64 z) (V := ext ((ext (ext X g22).drew g26).alloc (.cells #[.int .i64 0, .int .i64 0, .int .i64 0] 25)) g28) hq (mem_bel hM (by (repeat (first | with_reducible exact Bel.refl _ | with_reducible assumption | apply Bel.ext | apply Bel.alloc | apply Bel.drew | exact Bel.refl _ | refine Bel.set ?_ (by first | (simp; done) | (simp [go_sem]; done) | omega) _)) : Bel _ (ext (ext X g22).drew g26))) (by (repeat (first | with_reducible exact Bel.refl _ | with_reducible assumption | apply Bel.ext | apply Bel.alloc | apply Bel.drew | exact Bel.refl _ | refine Bel.set ?_ (by first | (simp; done) | (simp [go_sem]; done) | omega) _)) : Bel ((ext (ext X g22).drew g26).alloc (.cells #[.int .i64 0, .int .i64 0, .int .i64 0] 25)) _); clear hq; generalize (((ext ((ext (ext X g22).drew g26).alloc (.cells #[.int .i64 0, .int .i64 0, .int .i64 0] 25)) g28).setCell ⟨q4, 0, none⟩ (.int .i64 x)).setCell ⟨q4, 1, none⟩ (.int .i64 y)).setCell ⟨q4, 2, none⟩ (.int .i64 z) = Y at hB ⊢)
        | (obtain ⟨q4, hq⟩ : ∃ q, ((ext X g22)).heap.size = q := ⟨_, rfl⟩; rw [hq]; have hB := boxS (u := .int .i64 x) (v := .int .i64 y) (t := .int .i64 z) (V := ext (ext (((ext X g22)).alloc (.cells #[.int .i64 0, .int .i64 0, .int .i64 0] 25)).drew g26) g28) hq (mem_bel hM (by (repeat (first | with_reducible exact Bel.refl _ | with_reducible assumption | apply Bel.ext | apply Bel.alloc | apply Bel.drew | exact Bel.refl _ | refine Bel.set ?_ (by first | (simp; done) | (simp [go_sem]; done) | omega) _)) : Bel _ ((ext X g22)))) (by (repeat (first | with_reducible exact Bel.refl _ | with_reducible assumption | apply Bel.ext | apply Bel.alloc | apply Bel.drew | exact Bel.refl _ | refine Bel.set ?_ (by first | (simp; done) | (simp [go_sem]; done) | omega) _)) : Bel (((ext X g22)).alloc (.cells #[.int .i64 0, .int .i64 0, .int .i64 0] 25)) _); clear hq; generalize (((ext (ext (((ext X g22)).alloc (.cells #[.int .i64 0, .int .i64 0, .int .i64 0] 25)).drew g26) g28).setCell ⟨q4, 0, none⟩ (.int .i64 x)).setCell ⟨q4, 1, none⟩ (.int .i64 y)).setCell ⟨q4, 2, none⟩ (.int .i64 z) = Y at hB ⊢)
        | (obtain ⟨q4, hq⟩ : ∃ q, (ext (ext (ext X g22).drew g26) g28).heap.size = q := ⟨_, rfl⟩; rw [hq]; have hB := mem_lit (mem_bel hM (by (repeat (first | with_reducible exact Bel.refl _ | with_reducible assumption | apply Bel.ext | apply Bel.alloc | apply Bel.drew | exact Bel.refl _ | refine Bel.set ?_ (by first | (simp; done) | (simp [go_sem]; done) | omega) _)) : Bel _ (ext (ext (ext X g22).drew g26) g28))) 25 3 [.int .i64 x, .int .i64 y, .int .i64 z] 1 rfl (by unfold maxLen; omega); rw [hq] at hB; clear hq; generalize (ext (ext (ext X g22).drew g26) g28).alloc (.cells #[.int .i64 x, .int .i64 y, .int .i64 z] 25) = Y at hB ⊢)
      obtain ⟨gZ, hgZ⟩ := ext_ex hB.bel
      subst hgZ
      simp only [List.cons_append, List.nil_append] at hB
      obtain ⟨o1, o2, o3, o4, o5⟩ := mem_seen hB 0 rfl (by omega)
      have E0 := o1 0 _ rfl
      have E1 := o1 1 _ rfl
      have E2 := o1 2 _ rfl
      obtain ⟨t1, t2, t3, t4, t5⟩ := mem_seen hB 6 rfl (by omega)
      have D0 := t1 0 _ rfl
      have D1 := t1 1 _ rfl
      have D2 := t1 2 _ rfl
      clear F0 F1 F2 hM o1 t1
      rename_i hHeld
      clear hHeld
      have hM := hB
      clear hB
      go_wp2_with (first | (go_at_call 46; refine Calls.mono (mem_ret hM ?_ (HEQ.out _)) ?_; (focus (repeat (first | with_reducible exact Bel.refl _ | with_reducible assumption | apply Bel.ext | apply Bel.alloc | apply Bel.drew | exact Bel.refl _))); rintro ee ww ⟨rfl, _, rfl, hM⟩))
      clear o2 o3 o4 o5 t2 t3 t4 t5 E0 E1 E2 D0 D1 D2
      obtain ⟨o1, o2, o3, o4, o5⟩ := mem_seen hM 4 rfl (by omega)
      have F0 := o1 0 _ rfl
      have F1 := o1 1 _ rfl
      have F2 := o1 2 _ rfl
      clear o1
      go_region_held3 (fun q => q.cell? ⟨q3, 0, none⟩ = some (.slice p1 A.length d1) ∧ q.cell? ⟨q3, 1, none⟩ = some (.slice p2 B.length d2) ∧ q.cell? ⟨q3, 2, none⟩ = some (.slice p3 C.length d3) ∧ q.cell? ⟨w.heap.size, 0, none⟩ = some (.slice a1 n1 c1) ∧ q.cell? ⟨w.heap.size, 1, none⟩ = some (.slice a2 n2 c2) ∧ q.cell? ⟨w.heap.size, 2, none⟩ = some (.slice a3 n3 c3)) (simp [go_sem, *]) (first | (go_at_call 37; refine Calls.mono (toGrid_c _ _ _ A B C _ (r1.bel ?_) (r2.bel ?_) (r3.bel ?_) L1 L2 L3) ?_; (focus (repeat (first | with_reducible exact Bel.refl _ | with_reducible assumption | apply Bel.ext | apply Bel.alloc | apply Bel.drew | exact Bel.refl _))); (focus (repeat (first | with_reducible exact Bel.refl _ | with_reducible assumption | apply Bel.ext | apply Bel.alloc | apply Bel.drew | exact Bel.refl _))); (focus (repeat (first | with_reducible exact Bel.refl _ | with_reducible assumption | apply Bel.ext | apply Bel.alloc | apply Bel.drew | exact Bel.refl _))); rintro ee ww ⟨z1, z2, z3, g35, rfl, rfl, hMt⟩) | (go_at_call 40; refine Calls.mono (eqGrid_c _ _ _ _ _ _ A B C _ (Rd.bel (rd_of hM 1 rfl) ?_) (Rd.bel (rd_of hM 2 rfl) ?_) (Rd.bel (rd_of hM 3 rfl) ?_) (Rd.bel (rd_of hMt 0 rfl) ?_) (Rd.bel (rd_of hMt 1 rfl) ?_) (Rd.bel (rd_of hMt 2 rfl) ?_)) ?_; (focus (repeat (first | with_reducible exact Bel.refl _ | with_reducible assumption | apply Bel.ext | apply Bel.alloc | apply Bel.drew | exact Bel.refl _))); (focus (repeat (first | with_reducible exact Bel.refl _ | with_reducible assumption | apply Bel.ext | apply Bel.alloc | apply Bel.drew | exact Bel.refl _))); (focus (repeat (first | with_reducible exact Bel.refl _ | with_reducible assumption | apply Bel.ext | apply Bel.alloc | apply Bel.drew | exact Bel.refl _))); (focus (repeat (first | with_reducible exact Bel.refl _ | with_reducible assumption | apply Bel.ext | apply Bel.alloc | apply Bel.drew | exact Bel.refl _))); (focus (repeat (first | with_reducible exact Bel.refl _ | with_reducible assumption | apply Bel.ext | apply Bel.alloc | apply Bel.drew | exact Bel.refl _))); (focus (repeat (first | with_reducible exact Bel.refl _ | with_reducible assumption | apply Bel.ext | apply Bel.alloc | apply Bel.drew | exact Bel.refl _))); rintro ee ww ⟨rfl, _, rfl⟩))
      all_goals
        go_wp2_with (first | (go_at_call 32; refine Calls.mono (toPointS_c _ xs _ (r4.bel ?_) L4) ?_; (focus (repeat (first | with_reducible exact Bel.refl _ | with_reducible assumption | apply Bel.ext | apply Bel.alloc | apply Bel.drew | exact Bel.refl _))); rintro ee ww ⟨v2, g36, rfl, rfl, hP2⟩) | (go_at_call 34; refine Calls.mono (eqPointS_c _ _ xs xs _ (Rd.bel (rd_of hM 5 rfl) ?_) (Rd.bel (rd_of_row hP2) ?_)) ?_; (focus (repeat (first | with_reducible exact Bel.refl _ | with_reducible assumption | apply Bel.ext | apply Bel.alloc | apply Bel.drew | exact Bel.refl _))); (focus (repeat (first | with_reducible exact Bel.refl _ | with_reducible assumption | apply Bel.ext | apply Bel.alloc | apply Bel.drew | exact Bel.refl _))); rintro ee ww ⟨rfl, _, rfl⟩))
        go_ret
        refine Ret.mk ?_ (?_ : Bel _ _)
        · exact H.out
        · exact Below.trans hwA (Below.mono (by (repeat (first | with_reducible exact Bel.refl _ | with_reducible assumption | apply Bel.ext | apply Bel.alloc | apply Bel.drew | exact Bel.refl _ | refine Bel.set ?_ (by first | (simp; done) | (simp [go_sem]; done) | omega) _)) : Bel X _) hwA.size)

set_option maxRecDepth 100000 in
theorem lifted (os : Os) (started : os.Started) (H : Type) (enc : TypeId × Value → H) :
    ReturnsInHanded {} Try.checked os 11 .any (Rows.fnExactBestModelSpec.pre6 enc Try.prog Try.f11 Rows.fnExactBestModelRow.domain false) (Rows.fnExactBestModelSpec.post enc Try.prog Try.f11 false true false false) := by
  refine returnsInHanded_of_change (C := Try.checked) own started (by kernel_rfl) Try.func11
    (ChangeSpec.witness6 (enc := enc) (C := Try.checked) false ⟨#[], #[.agg #[.slice none 0 0, .slice none 0 0, .slice none 0 0], .agg #[.int .i64 0, .int .i64 0], .int .i64 0, .slice none 0 0], []⟩ 8 (by kernel_rfl) (by kernel_rfl) (by kernel_rfl) (by kernel_rfl)) ?_
  intro W base args ds gs before hval0 hW _ _
  have hval : ∀ (j : Nat) t v, Try.f11.params[j]? = some t → args[j]? = some v → Value.okWide Try.prog W .any base t v := hval0
  have hW' := hW
  obtain ⟨p, q, hA0, hV, rfl, hfz, hnd⟩ := hW
  have hA : DataW.TrodAll enc Try.prog W 0 (fun _ => true) true Try.f11.params.toList args.toList ds p := hA0
  have hlt : ∀ x ∈ p, x.block < W.heap.size := fun x hx => hW'.lt x (by simp [hx])
  rw [Try.params11] at hA hval
  have hK := hA
  obtain ⟨v0, vs0, d0, ds0, p0, q0, hargs, rfl, rfl, h0, r0⟩ := trodAll_cons hA
  obtain ⟨v1, vs1, d1, ds1, p1, q1, rfl, rfl, rfl, h1, r1⟩ := trodAll_cons r0
  obtain ⟨v2, vs2, d2, ds2, p2, q2, rfl, rfl, rfl, h2, r2⟩ := trodAll_cons r1
  obtain ⟨v3, vs3, d3, ds3, p3, q3, rfl, rfl, rfl, h3, r3⟩ := trodAll_cons r2
  obtain ⟨rfl, rfl, rfl⟩ := trodAll_nil r3
  obtain rfl : args = #[v0, v1, v2, v3] := by cases args; simp_all
  obtain ⟨rfl, rfl⟩ := trodVars_none hV
  obtain ⟨c00, c01, c02, y00, y01, y02, m0, rfl, -, -, hy00, hy01, hy02⟩ := Go.Joins.open_agg3 Try.underlying58 (by kernel_rfl) (by kernel_rfl) (hval 0 58 v0 rfl rfl) h0
  obtain ⟨a00, n00, cp00, xs00, rfl, hs00⟩ := open_slF Try.underlying34 Try.underlying2 (by kernel_rfl) hy00
  obtain ⟨a01, n01, cp01, xs01, rfl, hs01⟩ := open_slF Try.underlying34 Try.underlying2 (by kernel_rfl) hy01
  obtain ⟨a02, n02, cp02, xs02, rfl, hs02⟩ := open_slF Try.underlying34 Try.underlying2 (by kernel_rfl) hy02
  obtain ⟨c10, c11, y10, y11, m1, rfl, -, -, hy10, hy11⟩ := Go.Joins.open_agg2 Try.underlying33 (by kernel_rfl) (by kernel_rfl) (hval 1 33 v1 rfl rfl) h1
  obtain ⟨x10, e10, -, w10⟩ := DataW.trod_int Try.underlying2 hy10
  obtain rfl : c10 = .int .i64 x10 := by simpa using e10
  obtain ⟨x11, e11, -, w11⟩ := DataW.trod_int Try.underlying2 hy11
  obtain rfl : c11 = .int .i64 x11 := by simpa using e11
  obtain ⟨x2, rfl, -, -, w2⟩ := open_int Try.underlying2 (hval 2 2 v2 rfl rfl) h2
  obtain ⟨a3, n3, cp3, xs3, rfl, hs3⟩ := open_sl2 Try.underlying50 Try.underlying88 (by kernel_rfl) rfl rfl (by kernel_rfl) (by kernel_rfl) (by kernel_rfl) (by kernel_rfl) (hval 3 50 v3 rfl rfl) h3
  refine (walk a00 n00 cp00 xs00 a01 n01 cp01 xs01 a02 n02 cp02 xs02 x10 x11 x2 a3 n3 cp3 xs3 W hs00 hs01 hs02 hs3).mono fun e W' ⟨he, g, hg⟩ => ?_
  subst he
  have hb : Below W.heap.size W W' := by rw [hg]; exact ext_below W g
  have hARG := trodAll_below hb _ (by kernel_rfl) hlt hK
  exact ⟨_, rfl, [d0, d1, d2, d3], [], _, [], p0 ++ (p1 ++ (p2 ++ (p3 ++ ([])))), [], hW', trodAll_cons_mk (shut_bool Try.underlying4 _) trodAll_mk0, hARG, rfl, hb.frame _, fun h => by cases h⟩

theorem over : Rows.fnExactBestModelRow.holds Try.pinned (OpenSpec.ofChange Rows.fnExactBestModelSpec) :=
  OpenClaim.holds_of_wide 11 Try.f11 rfl rfl rfl rfl rfl rfl rfl ⟨rfl, rfl, rfl, rfl, rfl⟩ rfl rfl rfl rfl rfl (by kernel_rfl) Try.func11 (by kernel_rfl)
    (of_decide_eq_true (by kernel_rfl)) (by unfold Func.isWrapper; first | (rw [if_pos (by decide +kernel)]; kernel_rfl) | (rw [if_neg (by decide +kernel)]; exact ⟨rfl, rfl⟩))
    (fun os started H enc _ => lifted os started H enc)

theorem proved : Rows.FnExactBestModelSaid := over
end Go.Proofs.Ytjdcdcfhnpephaa.lawBestModel
