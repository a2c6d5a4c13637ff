/- Grids of models: what the program and the reference make of them. -/
import Derived.Test.YtjdcdcfhnpephaaGrid
namespace Go.Proofs.Ytjdcdcfhnpephaa
open Go.RowKit

set_option maxHeartbeats 2000000 in
theorem l14Grid_c (b : Nat) (u1 u2 u3 : Value) (A B C : List Int) (w : World) (h1 : Rd celI w u1 A) (h2 : Rd celI w u2 B) (h3 : Rd celI w u3 C) (hb : b < w.heap.size)
    (k0 : w.cell? ⟨b, 0, none⟩ = some u1) (k1 : w.cell? ⟨b, 1, none⟩ = some u2) (k2 : w.cell? ⟨b, 2, none⟩ = some u3) :
    Calls Try.prog 72 #[.pointer (some ⟨b, 0, none⟩)] w (Ret (.bool (gridB A B C)) w) := by
  refine hide_ret fun v H => ?_
  obtain ⟨a1, n1, c1, rfl, s1⟩ := h1.sl
  obtain ⟨a2, n2, c2, rfl, s2⟩ := h2.sl
  obtain ⟨a3, n3, c3, rfl, s3⟩ := h3.sl
  have e1 := s1.len; have e2 := s2.len; have e3 := s3.len
  have l1 := s1.le; have l2 := s2.le; have l3 := s3.le
  have m1 := s1.cap; have m2 := s2.cap; have m3 := s3.cap
  unfold maxLen at m1 m2 m3
  have HG := Lib.hid (gridB_iff (A := A) (B := B) (C := C))
  rw [← e1, ← e2, ← e3] at HG
  clear e1 e2 e3 s1 s2 s3
  have no : ¬ (gridB A B C = true) → Hid (Value.bool false = v) := fun h => by rw [Bool.not_eq_true] at h; rw [← H.out, h]; exact rfl
  by_cases q1 : 1 ≤ n1 ∧ n1 ≤ 300
  rotate_left
  · have HF := no (fun h => by have := HG.out.1 h; omega)
    have z1 : inB (n1 : Int) 1 300 = false := inB_false.2 (by omega)
    clear no q1
    go_enter Try.func72, Try.ntmps72
    go_wp2_with (first | (go_at_call 49; refine Calls.mono (l00In_c _ _ _ _) ?_; rintro ee ww ⟨rfl, rfl⟩))
    go_ret
    refine Ret.mk ?_ (?_ : Bel _ _)
    · exact HF.out
    · (repeat (first | with_reducible exact Bel.refl _ | with_reducible assumption | apply Bel.ext | apply Bel.alloc | apply Bel.drew | exact Bel.refl _ | refine Bel.set ?_ (by first | (simp; done) | (simp [go_sem]; done) | omega) _))
  have z1 : inB (n1 : Int) 1 300 = true := inB_iff.2 (by omega)
  by_cases q2 : 1 ≤ n2 ∧ n2 ≤ 300
  rotate_left
  · have HF := no (fun h => by have := HG.out.1 h; omega)
    have z2 : inB (n2 : Int) 1 300 = false := inB_false.2 (by omega)
    clear no q2
    go_enter Try.func72, Try.ntmps72
    go_wp2_with (first | (go_at_call 49; refine Calls.mono (l00In_c _ _ _ _) ?_; rintro ee ww ⟨rfl, rfl⟩))
    go_ret
    refine Ret.mk ?_ (?_ : Bel _ _)
    · exact HF.out
    · (repeat (first | with_reducible exact Bel.refl _ | with_reducible assumption | apply Bel.ext | apply Bel.alloc | apply Bel.drew | exact Bel.refl _ | refine Bel.set ?_ (by first | (simp; done) | (simp [go_sem]; done) | omega) _))
  have z2 : inB (n2 : Int) 1 300 = true := inB_iff.2 (by omega)
  by_cases q3 : 1 ≤ n3 ∧ n3 ≤ 300
  rotate_left
  · have HF := no (fun h => by have := HG.out.1 h; omega)
    have z3 : inB (n3 : Int) 1 300 = false := inB_false.2 (by omega)
    clear no q3
    go_enter Try.func72, Try.ntmps72
    go_wp2_with (first | (go_at_call 49; refine Calls.mono (l00In_c _ _ _ _) ?_; rintro ee ww ⟨rfl, rfl⟩))
    go_ret
    refine Ret.mk ?_ (?_ : Bel _ _)
    · exact HF.out
    · (repeat (first | with_reducible exact Bel.refl _ | with_reducible assumption | apply Bel.ext | apply Bel.alloc | apply Bel.drew | exact Bel.refl _ | refine Bel.set ?_ (by first | (simp; done) | (simp [go_sem]; done) | omega) _))
  have z3 : inB (n3 : Int) 1 300 = true := inB_iff.2 (by omega)
  obtain ⟨p1, p2⟩ := prod_in (a := n1) (b := n2) (c := n3) (by omega) (by omega) (by omega)
  have b1 : ((n1 * n2 : Nat) : Int) = (n1 : Int) * n2 := Int.natCast_mul _ _
  have b2 : ((n1 * n2 * n3 : Nat) : Int) = (n1 : Int) * n2 * n3 := by rw [Int.natCast_mul, Int.natCast_mul]
  have b3 : 0 ≤ (n1 : Int) * n2 := by omega
  have b4 : (n1 : Int) * n2 ≤ 90000 := by omega
  have b5 : 0 ≤ (n1 : Int) * n2 * n3 := by omega
  have b6 : (n1 : Int) * n2 * n3 ≤ 27000000 := by omega
  by_cases q7 : 300 < n1 * n2 * n3
  · have HF := no (fun h => by have := HG.out.1 h; omega)
    have z7 : decide ((n1 : Int) * n2 * n3 ≤ 300) = false := decide_eq_false (by omega)
    clear no q1 q2 q3 q7 b1 b2 p1 p2
    go_enter Try.func72, Try.ntmps72
    go_wp2_with (first | (go_at_call 49; refine Calls.mono (l00In_c _ _ _ _) ?_; rintro ee ww ⟨rfl, rfl⟩))
    go_ret
    refine Ret.mk ?_ (?_ : Bel _ _)
    · exact HF.out
    · (repeat (first | with_reducible exact Bel.refl _ | with_reducible assumption | apply Bel.ext | apply Bel.alloc | apply Bel.drew | exact Bel.refl _ | refine Bel.set ?_ (by first | (simp; done) | (simp [go_sem]; done) | omega) _))
  · have HF : Hid (Value.bool true = v) := by
      have h : gridB A B C = true := HG.out.2 ⟨by omega, by omega, by omega, by omega, by omega, by omega, by omega⟩
      rw [← H.out, h]; exact rfl
    have z7 : decide ((n1 : Int) * n2 * n3 ≤ 300) = true := decide_eq_true (by omega)
    clear no q1 q2 q3 q7 b1 b2 p1 p2
    go_enter Try.func72, Try.ntmps72
    go_wp2_with (first | (go_at_call 49; refine Calls.mono (l00In_c _ _ _ _) ?_; rintro ee ww ⟨rfl, rfl⟩))
    go_ret
    refine Ret.mk ?_ (?_ : Bel _ _)
    · exact HF.out
    · (repeat (first | with_reducible exact Bel.refl _ | with_reducible assumption | apply Bel.ext | apply Bel.alloc | apply Bel.drew | exact Bel.refl _ | refine Bel.set ?_ (by first | (simp; done) | (simp [go_sem]; done) | omega) _))
set_option maxHeartbeats 4000000 in
theorem models_c (u1 u2 u3 : Value) (A B C : List Int) (w : World) (h1 : Rd celI w u1 A) (h2 : Rd celI w u2 B) (h3 : Rd celI w u3 C) (f1 : A.length ≤ 300) (f2 : B.length ≤ 300) (f3 : C.length ≤ 300) :
    Calls Try.prog 76 #[.agg #[u1, u2, u3]] w (RetRow 25 3 (fun v => v) ((prodL A B C).filter okM).length (cel3.row ((prodL A B C).filter okM)) w) := by
  generalize hR : RetRow _ _ _ _ _ w = R
  have HR := Lib.hid hR
  clear hR
  obtain ⟨a1, n1, c1, rfl, s1⟩ := h1.sl
  obtain ⟨a2, n2, c2, rfl, s2⟩ := h2.sl
  obtain ⟨a3, n3, c3, rfl, s3⟩ := h3.sl
  have E1 := Lib.hid s1.len; have E2 := Lib.hid s2.len; have E3 := Lib.hid s3.len
  have l1 := s1.le; have l2 := s2.le; have l3 := s3.le
  have m1 := s1.cap; have m2 := s2.cap; have m3 := s3.cap
  unfold maxLen at m1 m2 m3
  rw [← E1.out] at f1
  rw [← E2.out] at f2
  rw [← E3.out] at f3
  have eg : ∀ args w, (callFunc 14 args).run Try.prog w = .ok (.enter 14 args) w := enters_of Try.func14 (by kernel_rfl) rfl
  go_enter Try.func76, Try.ntmps76
  go_wp2_with fail
  have hwA : Bel w (w.alloc (.cells #[.slice a1 n1 c1, .slice a2 n2 c2, .slice a3 n3 c3] 63)) := by (repeat (first | with_reducible exact Bel.refl _ | with_reducible assumption | apply Bel.ext | apply Bel.alloc | apply Bel.drew | exact Bel.refl _ | refine Bel.set ?_ (by first | (simp; done) | (simp [go_sem]; done) | omega) _))
  have hc0 : (w.alloc (.cells #[.slice a1 n1 c1, .slice a2 n2 c2, .slice a3 n3 c3] 63)).cell? ⟨w.heap.size, 0, none⟩ = some (.slice a1 n1 c1) := by simp [go_sem]
  have hc1 : (w.alloc (.cells #[.slice a1 n1 c1, .slice a2 n2 c2, .slice a3 n3 c3] 63)).cell? ⟨w.heap.size, 1, none⟩ = some (.slice a2 n2 c2) := by simp [go_sem]
  have hc2 : (w.alloc (.cells #[.slice a1 n1 c1, .slice a2 n2 c2, .slice a3 n3 c3] 63)).cell? ⟨w.heap.size, 2, none⟩ = some (.slice a3 n3 c3) := by simp [go_sem]
  have hz : w.heap.size < (w.alloc (.cells #[.slice a1 n1 c1, .slice a2 n2 c2, .slice a3 n3 c3] 63)).heap.size := by simp
  have HXZ := Lib.hid (show (w.alloc (.cells #[.slice a1 n1 c1, .slice a2 n2 c2, .slice a3 n3 c3] 63)).heap.size = w.heap.size + 1 from by simp)
  generalize w.alloc (.cells #[.slice a1 n1 c1, .slice a2 n2 c2, .slice a3 n3 c3] 63) = X at *
  rw [← HXZ.out]
  replace s1 := s1.bel hwA
  replace s2 := s2.bel hwA
  replace s3 := s3.bel hwA
  go_loopw [3, 14] (fun o i wr => ∃ k : Nat, k ≤ n1 ∧ i = .int .i64 k ∧ Bel X wr ∧ Hid ((prodL (A.take k) B C).length ≤ k * 90000) ∧ Hid (wr.ownsRow X.heap.size 25 3 o (prodL (A.take k) B C).length (cel3.row (prodL (A.take k) B C)))) (fun _ i _ => n1 - (intOf i).toNat)
  case atStart => exact ⟨0, by omega, by go_num, by (repeat (first | with_reducible exact Bel.refl _ | with_reducible assumption | apply Bel.ext | apply Bel.alloc | apply Bel.drew | exact Bel.refl _ | refine Bel.set ?_ (by first | (simp; done) | (simp [go_sem]; done) | omega) _)), Lib.hid (by simp [prodL]), Lib.hid (by refine own_empty _ _ _ _ ?_; exact bel_size (by (repeat (first | with_reducible exact Bel.refl _ | with_reducible assumption | apply Bel.ext | apply Bel.alloc | apply Bel.drew | exact Bel.refl _ | refine Bel.set ?_ (by first | (simp; done) | (simp [go_sem]; done) | omega) _))))⟩
  case round =>
    obtain ⟨k, hk, rfl, hbel, hle, hown⟩ := hrel
    obtain ⟨g, rfl⟩ := ext_ex hbel
    by_cases hlt : k < n1
    · obtain ⟨b1, o1, rfl, hb1⟩ := s1.base hlt
      obtain ⟨d, hx, hd⟩ := s1.at1 hlt
      have HT := Lib.hid (prodL_take (B := B) (C := C) hx.out)
      have hle1 := hle.out
      have hr2 := rowB2_len d B C
      rw [← E2.out, ← E3.out] at hr2
      have hp2 := Nat.mul_le_mul f2 f3
      have HR2 := Lib.hid hr2
      have HP2 := Lib.hid hp2
      clear hr2 hp2
      generalize prodL (A.take k) B C = L at *
      go_wp2_with fail
      go_loopw [3, 21] (fun o i wr => ∃ j : Nat, j ≤ n2 ∧ i = .int .i64 j ∧ Bel X wr ∧ Hid ((rowB2 d (B.take j) C).length ≤ j * 300) ∧ Hid (wr.ownsRow X.heap.size 25 3 o (L ++ rowB2 d (B.take j) C).length (cel3.row (L ++ rowB2 d (B.take j) C)))) (fun _ i _ => n2 - (intOf i).toNat)
      case atStart => exact ⟨0, by omega, by go_num, by (repeat (first | with_reducible exact Bel.refl _ | with_reducible assumption | apply Bel.ext | apply Bel.alloc | apply Bel.drew | exact Bel.refl _ | refine Bel.set ?_ (by first | (simp; done) | (simp [go_sem]; done) | omega) _)), Lib.hid (by simp [rowB2]), Lib.hid (by simpa [rowB2] using own_bel hown.out (by (repeat (first | with_reducible exact Bel.refl _ | with_reducible assumption | apply Bel.ext | apply Bel.alloc | apply Bel.drew | exact Bel.refl _ | refine Bel.set ?_ (by first | (simp; done) | (simp [go_sem]; done) | omega) _))))⟩
      case round =>
        clear hown
        obtain ⟨j, hj, rfl, hbel2, hle2', hown⟩ := hrel
        obtain ⟨g2, rfl⟩ := ext_ex hbel2
        by_cases hlj : j < n2
        · obtain ⟨b2, o2, rfl, hb2⟩ := s2.base hlj
          obtain ⟨h, hy, he⟩ := s2.at1 hlj
          have HT2 := Lib.hid (rowB2_take (d := d) (C := C) hy.out)
          have hle2 := hle2'.out
          generalize rowB2 d (B.take j) C = L2 at *
          go_wp2_with fail
          go_loopw [3, 28] (fun o i wr => ∃ q : Nat, q ≤ n3 ∧ i = .int .i64 q ∧ Bel X wr ∧ Hid ((rowC d h (C.take q)).length ≤ q) ∧ Hid (wr.ownsRow X.heap.size 25 3 o (L ++ (L2 ++ rowC d h (C.take q))).length (cel3.row (L ++ (L2 ++ rowC d h (C.take q)))))) (fun _ i _ => n3 - (intOf i).toNat)
          case atStart => exact ⟨0, by omega, by go_num, by (repeat (first | with_reducible exact Bel.refl _ | with_reducible assumption | apply Bel.ext | apply Bel.alloc | apply Bel.drew | exact Bel.refl _ | refine Bel.set ?_ (by first | (simp; done) | (simp [go_sem]; done) | omega) _)), Lib.hid (by simp [rowC]), Lib.hid (by simpa [rowC] using own_bel hown.out (by (repeat (first | with_reducible exact Bel.refl _ | with_reducible assumption | apply Bel.ext | apply Bel.alloc | apply Bel.drew | exact Bel.refl _ | refine Bel.set ?_ (by first | (simp; done) | (simp [go_sem]; done) | omega) _))))⟩
          case round =>
            clear hown
            obtain ⟨q, hq, rfl, hbel3, hle3', hown⟩ := hrel
            obtain ⟨g3, rfl⟩ := ext_ex hbel3
            by_cases hlq : q < n3
            · obtain ⟨b3, o3, rfl, hb3⟩ := s3.base hlq
              obtain ⟨f, hv, hf⟩ := s3.at1 hlq
              have HT3 := Lib.hid (rowC_take (d := d) (h := h) hv.out)
              have hle3 := hle3'.out
              generalize rowC d h (C.take q) = L3 at *
              have hll : (L ++ (L2 ++ L3)).length ≤ 1000000000 := by simp only [List.length_append]; omega
              generalize hM : L ++ (L2 ++ L3) = M at *
              have HM := Lib.hid hM
              clear hM
              go_wp2_with (first | (at_builtin; refine wpList_append_new rfl (.tmp 32) (.tmp 37) 60 25 3 24 rfl appModelP (by decide) X _ _ _ 1 [.int .i64 d, .int .i64 h, .int .i64 f] rfl (by first | with_reducible rfl | (simp [go_sem]; done)) rfl (by intro u hu; simp at hu; first | (subst hu; rfl) | (rcases hu with rfl | rfl <;> rfl) | (rcases hu with rfl | rfl | rfl <;> rfl)) (own_bel hown.out ?_) ?_ (by omega) (by omega) ?_; (focus (repeat (first | with_reducible exact Bel.refl _ | with_reducible assumption | apply Bel.ext | apply Bel.alloc | apply Bel.drew | exact Bel.refl _))); (focus (repeat (first | with_reducible exact Bel.refl _ | with_reducible assumption | apply Bel.ext | apply Bel.alloc | apply Bel.drew | exact Bel.refl _))); intro v2 g2 hown2 hgr2))
              go_roundw
              case rel =>
                refine ⟨q + 1, by omega, by go_num, by (repeat (first | with_reducible exact Bel.refl _ | with_reducible assumption | apply Bel.ext | apply Bel.alloc | apply Bel.drew | exact Bel.refl _ | refine Bel.set ?_ (by first | (simp; done) | (simp [go_sem]; done) | omega) _)), Lib.hid (by rw [HT3.out]; simp only [List.length_append, List.length_cons, List.length_nil]; omega), Lib.hid ?_⟩
                rw [HT3.out, ← List.append_assoc L2, ← List.append_assoc L, HM.out, Cel.row_append, Cel.row_one, List.length_append]; exact hown2
              case measure => simp [intOf]; omega
            · have hq3 : q = n3 := by omega
              have HQ := Lib.hid (show C.take q = C from by rw [hq3, E3.out]; exact List.take_length)
              clear hq3
              rw [HQ.out] at hown
              have hle3 := hle3'.out
              rw [HQ.out] at hle3
              clear hle3'
              have HO := Lib.hid hown
              clear hown
              go_wp2
              go_roundw
              case rel =>
                refine ⟨j + 1, by omega, by go_num, by (repeat (first | with_reducible exact Bel.refl _ | with_reducible assumption | apply Bel.ext | apply Bel.alloc | apply Bel.drew | exact Bel.refl _ | refine Bel.set ?_ (by first | (simp; done) | (simp [go_sem]; done) | omega) _)), Lib.hid (by rw [HT2.out]; simp only [List.length_append]; omega), Lib.hid ?_⟩
                rw [HT2.out]; exact own_bel HO.out.out (by (repeat (first | with_reducible exact Bel.refl _ | with_reducible assumption | apply Bel.ext | apply Bel.alloc | apply Bel.drew | exact Bel.refl _ | refine Bel.set ?_ (by first | (simp; done) | (simp [go_sem]; done) | omega) _)))
              case measure => simp [intOf]; omega
        · have hj2 : j = n2 := by omega
          have HQ := Lib.hid (show B.take j = B from by rw [hj2, E2.out]; exact List.take_length)
          clear hj2
          rw [HQ.out] at hown
          have HO := Lib.hid hown
          clear hown hle2'
          go_wp2
          go_roundw
          case rel =>
            refine ⟨k + 1, by omega, by go_num, by (repeat (first | with_reducible exact Bel.refl _ | with_reducible assumption | apply Bel.ext | apply Bel.alloc | apply Bel.drew | exact Bel.refl _ | refine Bel.set ?_ (by first | (simp; done) | (simp [go_sem]; done) | omega) _)), Lib.hid (by rw [HT.out, List.length_append, HR2.out]; have := HP2.out; omega), Lib.hid ?_⟩
            rw [HT.out]; exact own_bel HO.out.out (by (repeat (first | with_reducible exact Bel.refl _ | with_reducible assumption | apply Bel.ext | apply Bel.alloc | apply Bel.drew | exact Bel.refl _ | refine Bel.set ?_ (by first | (simp; done) | (simp [go_sem]; done) | omega) _)))
          case measure => simp [intOf]; omega
    · have hk2 : k = n1 := by omega
      have HQ := Lib.hid (show A.take k = A from by rw [hk2, E1.out]; exact List.take_length)
      have hle1 := hle.out
      clear hk2
      rw [HQ.out] at hown hle1
      have hrd := rd_of_row (C := cel3) hown.out
      have HCH := Lib.hid (fun (W : World) (hW : Bel (ext X g) W) => chosenModel_c okM 14 #[] eg _ (prodL A B C) W (hrd.bel hW) (by omega) (fun x y z W' _ _ => ValidModel_c x y z W'))
      have HO := Lib.hid hown
      clear hown hle
      go_wp2_with (first | (go_at_call 84; refine Calls.mono (HCH.out _ ?_) ?_; (focus (repeat (first | with_reducible exact Bel.refl _ | with_reducible assumption | apply Bel.ext | apply Bel.alloc | apply Bel.drew | exact Bel.refl _))); rintro ee ww ⟨v0, g0, rfl, rfl, hown1⟩))
      rw [← HR.out]
      refine RetRow.mk' rfl ?_ (own_mono hown1 (Nat.le_trans hwA.size (bel_size (by (repeat (first | with_reducible exact Bel.refl _ | with_reducible assumption | apply Bel.ext | apply Bel.alloc | apply Bel.drew | exact Bel.refl _ | refine Bel.set ?_ (by first | (simp; done) | (simp [go_sem]; done) | omega) _)) : Bel X _))))
      exact Below.trans hwA (Below.mono (by (repeat (first | with_reducible exact Bel.refl _ | with_reducible assumption | apply Bel.ext | apply Bel.alloc | apply Bel.drew | exact Bel.refl _ | refine Bel.set ?_ (by first | (simp; done) | (simp [go_sem]; done) | omega) _)) : Bel X _) hwA.size)
end Go.Proofs.Ytjdcdcfhnpephaa
