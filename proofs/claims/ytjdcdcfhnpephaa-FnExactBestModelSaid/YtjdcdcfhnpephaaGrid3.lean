/- Grids of models: what the reference makes of them; ModelsOf on both sides. -/
import Derived.Test.YtjdcdcfhnpephaaGrid2
namespace Go.Proofs.Ytjdcdcfhnpephaa
open Go.RowKit

set_option maxHeartbeats 4000000 in
theorem l14Models_c (b : Nat) (u1 u2 u3 : Value) (A B C : List Int) (X : World) (h1 : Rd celI X u1 A) (h2 : Rd celI X u2 B) (h3 : Rd celI X u3 C) (f1 : A.length ≤ 300) (f2 : B.length ≤ 300) (f3 : C.length ≤ 300) (hz : b < X.heap.size)
    (hc0 : X.cell? ⟨b, 0, none⟩ = some u1) (hc1 : X.cell? ⟨b, 1, none⟩ = some u2) (hc2 : X.cell? ⟨b, 2, none⟩ = some u3) :
    Calls Try.prog 73 #[.pointer (some ⟨b, 0, none⟩)] X (RetRow 25 3 (fun v => v) ((prodL A B C).filter okM).length (cel3.row ((prodL A B C).filter okM)) X) := by
  generalize hR : RetRow _ _ _ _ _ X = R
  have HR := Lib.hid hR
  clear hR
  obtain ⟨a1, n1, c1, rfl, s1⟩ := h1.sl
  obtain ⟨a2, n2, c2, rfl, s2⟩ := h2.sl
  obtain ⟨a3, n3, c3, rfl, s3⟩ := h3.sl
  have E1 := Lib.hid s1.len; have E2 := Lib.hid s2.len; have E3 := Lib.hid s3.len
  have l1 := s1.le; have l2 := s2.le; have l3 := s3.le
  have m1 := s1.cap; have m2 := s2.cap; have m3 := s3.cap
  unfold maxLen at m1 m2 m3
  rw [← E1.out] at f1
  rw [← E2.out] at f2
  rw [← E3.out] at f3
  go_enter Try.func73, Try.ntmps73
  go_wp2_with fail
  go_loopw [3, 4] (fun o i wr => ∃ (k : Nat) (L : List (Int × Int × Int)), k ≤ n1 ∧ i = .int .i64 k ∧ Bel X wr ∧ Hid (L = (prodL (A.take k) B C).filter okM) ∧ Hid (L.length ≤ k * 90000) ∧ Hid (wr.ownsRow X.heap.size 25 3 o L.length (cel3.row L))) (fun _ i _ => n1 - (intOf i).toNat)
  case atStart => exact ⟨0, [], by omega, by go_num, by (repeat (first | with_reducible exact Bel.refl _ | with_reducible assumption | apply Bel.ext | apply Bel.alloc | apply Bel.drew | exact Bel.refl _ | refine Bel.set ?_ (by first | (simp; done) | (simp [go_sem]; done) | omega) _)), Lib.hid (by simp [prodL]), Lib.hid (by simp), Lib.hid (by refine own_empty _ _ _ _ ?_; exact bel_size (by (repeat (first | with_reducible exact Bel.refl _ | with_reducible assumption | apply Bel.ext | apply Bel.alloc | apply Bel.drew | exact Bel.refl _ | refine Bel.set ?_ (by first | (simp; done) | (simp [go_sem]; done) | omega) _))))⟩
  case round =>
    obtain ⟨k, L, hk, rfl, hbel, hL, hle, hown⟩ := hrel
    obtain ⟨g, rfl⟩ := ext_ex hbel
    by_cases hlt : k < n1
    · obtain ⟨b1, o1, rfl, hb1⟩ := s1.base hlt
      obtain ⟨d, hx, hd⟩ := s1.at1 hlt
      have HT := Lib.hid (prodL_take (B := B) (C := C) hx.out)
      have hle1 := hle.out
      go_wp2_with fail
      go_loopw [3, 5] (fun o i wr => ∃ (j : Nat) (M : List (Int × Int × Int)), j ≤ n2 ∧ i = .int .i64 j ∧ Bel X wr ∧ Hid (M = L ++ (rowB2 d (B.take j) C).filter okM) ∧ Hid (M.length ≤ L.length + j * 300) ∧ Hid (wr.ownsRow X.heap.size 25 3 o M.length (cel3.row M))) (fun _ i _ => n2 - (intOf i).toNat)
      case atStart => exact ⟨0, L, by omega, by go_num, by (repeat (first | with_reducible exact Bel.refl _ | with_reducible assumption | apply Bel.ext | apply Bel.alloc | apply Bel.drew | exact Bel.refl _ | refine Bel.set ?_ (by first | (simp; done) | (simp [go_sem]; done) | omega) _)), Lib.hid (by simp [rowB2]), Lib.hid (by omega), Lib.hid (own_bel hown.out (by (repeat (first | with_reducible exact Bel.refl _ | with_reducible assumption | apply Bel.ext | apply Bel.alloc | apply Bel.drew | exact Bel.refl _ | refine Bel.set ?_ (by first | (simp; done) | (simp [go_sem]; done) | omega) _))))⟩
      case round =>
        clear hown
        obtain ⟨j, M, hj, rfl, hbel2, hM, hle2', hown⟩ := hrel
        obtain ⟨g2, rfl⟩ := ext_ex hbel2
        by_cases hlj : j < n2
        · obtain ⟨b2, o2, rfl, hb2⟩ := s2.base hlj
          obtain ⟨h, hy, he⟩ := s2.at1 hlj
          have HT2 := Lib.hid (rowB2_take (d := d) (C := C) hy.out)
          have hle2 := hle2'.out
          go_wp2_with fail
          go_loopw [3, 6] (fun o i wr => ∃ (z : Nat) (K : List (Int × Int × Int)), z ≤ n3 ∧ i = .int .i64 z ∧ Bel X wr ∧ Hid (K = M ++ (rowC d h (C.take z)).filter okM) ∧ Hid (K.length ≤ M.length + z) ∧ Hid (wr.ownsRow X.heap.size 25 3 o K.length (cel3.row K))) (fun _ i _ => n3 - (intOf i).toNat)
          case atStart => exact ⟨0, M, by omega, by go_num, by (repeat (first | with_reducible exact Bel.refl _ | with_reducible assumption | apply Bel.ext | apply Bel.alloc | apply Bel.drew | exact Bel.refl _ | refine Bel.set ?_ (by first | (simp; done) | (simp [go_sem]; done) | omega) _)), Lib.hid (by simp [rowC]), Lib.hid (by omega), Lib.hid (own_bel hown.out (by (repeat (first | with_reducible exact Bel.refl _ | with_reducible assumption | apply Bel.ext | apply Bel.alloc | apply Bel.drew | exact Bel.refl _ | refine Bel.set ?_ (by first | (simp; done) | (simp [go_sem]; done) | omega) _))))⟩
          case round =>
            clear hown
            obtain ⟨z, K, hq, rfl, hbel3, hK, hle3', hown⟩ := hrel
            obtain ⟨g3, rfl⟩ := ext_ex hbel3
            by_cases hlq : z < n3
            · obtain ⟨b3, o3, rfl, hb3⟩ := s3.base hlq
              obtain ⟨f, hv, hf⟩ := s3.at1 hlq
              have HT3 := Lib.hid (rowC_take (d := d) (h := h) hv.out)
              have hle3 := hle3'.out
              have VO := Lib.hid (fun w => l14Ok_c d h f w)
              rcases hok : modelB d h f with _ | _ <;> rw [hok] at VO
              · have HOK := Lib.hid (show okM (d, h, f) = false from hok)
                clear hok
                go_wp2_with fail
                go_region_held3 (fun q => q.cell? ⟨b, 0, none⟩ = some (.slice (some ⟨b1, o1, none⟩) n1 c1) ∧ q.cell? ⟨b, 1, none⟩ = some (.slice (some ⟨b2, o2, none⟩) n2 c2) ∧ q.cell? ⟨b, 2, none⟩ = some (.slice (some ⟨b3, o3, none⟩) n3 c3) ∧ q.cell? ⟨b1, o1 + k, none⟩ = some (.int .i64 d) ∧ q.cell? ⟨b2, o2 + j, none⟩ = some (.int .i64 h) ∧ q.cell? ⟨b3, o3 + z, none⟩ = some (.int .i64 f)) (simp [go_sem, *]) (fail)
                all_goals
                  go_wp2_with (first | (go_at_call 47; refine Calls.mono (VO.out _) ?_; rintro ee ww ⟨rfl, _, rfl⟩))
                  go_roundw
                  case rel =>
                    refine ⟨z + 1, K, by omega, by go_num, by (repeat (first | with_reducible exact Bel.refl _ | with_reducible assumption | apply Bel.ext | apply Bel.alloc | apply Bel.drew | refine Bel.set ?_ (by first | omega | (simp; done) | (simp [go_sem]; done) | (dsimp only; omega)) _)), Lib.hid (by rw [HT3.out, List.filter_append, ← List.append_assoc, ← hK.out]; simp [HOK.out]), Lib.hid (by omega), Lib.hid (own_bel hown.out (by (repeat (first | with_reducible exact Bel.refl _ | with_reducible assumption | apply Bel.ext | apply Bel.alloc | apply Bel.drew | refine Bel.set ?_ (by first | omega | (simp; done) | (simp [go_sem]; done) | (dsimp only; omega)) _))))⟩
                  case measure => simp [intOf]; omega
              · have HOK := Lib.hid (show okM (d, h, f) = true from hok)
                clear hok
                go_wp2_with fail
                go_region_held3 (fun q => q.cell? ⟨b, 0, none⟩ = some (.slice (some ⟨b1, o1, none⟩) n1 c1) ∧ q.cell? ⟨b, 1, none⟩ = some (.slice (some ⟨b2, o2, none⟩) n2 c2) ∧ q.cell? ⟨b, 2, none⟩ = some (.slice (some ⟨b3, o3, none⟩) n3 c3) ∧ q.cell? ⟨b1, o1 + k, none⟩ = some (.int .i64 d) ∧ q.cell? ⟨b2, o2 + j, none⟩ = some (.int .i64 h) ∧ q.cell? ⟨b3, o3 + z, none⟩ = some (.int .i64 f)) (simp [go_sem, *]) (fail)
                all_goals
                  have hKl : K.length ≤ 100000000 := by omega
                  go_wp2_with (first | (at_builtin; refine wpList_append_new rfl (.tmp 60) (.tmp 62) 60 25 3 24 rfl appModelP (by decide) X _ _ _ 1 [.int .i64 d, .int .i64 h, .int .i64 f] rfl (by first | with_reducible rfl | (simp [go_sem]; done)) rfl (by intro u hu; simp at hu; first | (subst hu; rfl) | (rcases hu with rfl | rfl <;> rfl) | (rcases hu with rfl | rfl | rfl <;> rfl)) (own_bel hown.out ?_) ?_ (by omega) (by omega) ?_; (focus (repeat (first | with_reducible exact Bel.refl _ | with_reducible assumption | apply Bel.ext | apply Bel.alloc | apply Bel.drew | exact Bel.refl _))); (focus (repeat (first | with_reducible exact Bel.refl _ | with_reducible assumption | apply Bel.ext | apply Bel.alloc | apply Bel.drew | exact Bel.refl _))); intro v2 g2 hown2 hgr2) | (go_at_call 47; refine Calls.mono (VO.out _) ?_; rintro ee ww ⟨rfl, _, rfl⟩))
                  go_roundw
                  case rel =>
                    refine ⟨z + 1, K ++ [(d, h, f)], by omega, by go_num, by (repeat (first | with_reducible exact Bel.refl _ | with_reducible assumption | apply Bel.ext | apply Bel.alloc | apply Bel.drew | exact Bel.refl _ | refine Bel.set ?_ (by first | (simp; done) | (simp [go_sem]; done) | omega) _)), Lib.hid (by rw [HT3.out, List.filter_append, ← List.append_assoc, ← hK.out]; simp [HOK.out]), Lib.hid (by simp only [List.length_append, List.length_cons, List.length_nil]; omega), Lib.hid ?_⟩
                    rw [Cel.row_append, Cel.row_one, List.length_append]; exact hown2
                  case measure => simp [intOf]; omega
            · have hq3 : z = n3 := by omega
              have HQ := Lib.hid (show C.take z = C from by rw [hq3, E3.out]; exact List.take_length)
              clear hq3
              have hKK := hK.out
              rw [HQ.out] at hKK
              have HK2 := Lib.hid hKK
              have hle3 := hle3'.out
              clear hle3' hKK
              go_wp2
              go_roundw
              case rel =>
                refine ⟨j + 1, K, by omega, by go_num, by (repeat (first | with_reducible exact Bel.refl _ | with_reducible assumption | apply Bel.ext | apply Bel.alloc | apply Bel.drew | exact Bel.refl _ | refine Bel.set ?_ (by first | (simp; done) | (simp [go_sem]; done) | omega) _)), Lib.hid (by rw [HT2.out, List.filter_append, ← List.append_assoc, ← hM.out, HK2.out]), Lib.hid (by omega), Lib.hid (own_bel hown.out (by (repeat (first | with_reducible exact Bel.refl _ | with_reducible assumption | apply Bel.ext | apply Bel.alloc | apply Bel.drew | exact Bel.refl _ | refine Bel.set ?_ (by first | (simp; done) | (simp [go_sem]; done) | omega) _))))⟩
              case measure => simp [intOf]; omega
        · have hj2 : j = n2 := by omega
          have HQ := Lib.hid (show B.take j = B from by rw [hj2, E2.out]; exact List.take_length)
          clear hj2
          have hMM := hM.out
          rw [HQ.out] at hMM
          have HM2 := Lib.hid hMM
          have hle2 := hle2'.out
          clear hle2' hMM
          go_wp2
          go_roundw
          case rel =>
            refine ⟨k + 1, M, by omega, by go_num, by (repeat (first | with_reducible exact Bel.refl _ | with_reducible assumption | apply Bel.ext | apply Bel.alloc | apply Bel.drew | exact Bel.refl _ | refine Bel.set ?_ (by first | (simp; done) | (simp [go_sem]; done) | omega) _)), Lib.hid (by rw [HT.out, List.filter_append, ← hL.out, HM2.out]), Lib.hid (by omega), Lib.hid (own_bel hown.out (by (repeat (first | with_reducible exact Bel.refl _ | with_reducible assumption | apply Bel.ext | apply Bel.alloc | apply Bel.drew | exact Bel.refl _ | refine Bel.set ?_ (by first | (simp; done) | (simp [go_sem]; done) | omega) _))))⟩
          case measure => simp [intOf]; omega
    · have hk2 : k = n1 := by omega
      have HQ := Lib.hid (show A.take k = A from by rw [hk2, E1.out]; exact List.take_length)
      clear hk2
      have hLL := hL.out
      rw [HQ.out] at hLL
      have HL2 := Lib.hid hLL
      clear hLL hL hle
      go_wp2
      rw [← HR.out, ← HL2.out]
      exact RetRow.mk' rfl (by (repeat (first | with_reducible exact Bel.refl _ | with_reducible assumption | apply Bel.ext | apply Bel.alloc | apply Bel.drew | exact Bel.refl _ | refine Bel.set ?_ (by first | (simp; done) | (simp [go_sem]; done) | omega) _)) : Bel _ _) (own_bel hown.out (by (repeat (first | with_reducible exact Bel.refl _ | with_reducible assumption | apply Bel.ext | apply Bel.alloc | apply Bel.drew | exact Bel.refl _ | refine Bel.set ?_ (by first | (simp; done) | (simp [go_sem]; done) | omega) _))))
set_option maxHeartbeats 2000000 in
theorem ModelsOf_c (u1 u2 u3 : Value) (A B C : List Int) (w : World) (h1 : Rd celI w u1 A) (h2 : Rd celI w u2 B) (h3 : Rd celI w u3 C) :
    Calls Try.prog 38 #[.agg #[u1, u2, u3]] w (RetRow 25 3 (fun v => .tuple #[v, .int .i64 (modelsI A B C).2]) (modelsI A B C).1.length (cel3.row (modelsI A B C).1) w) := by
  generalize hR : RetRow _ _ _ _ _ w = R
  have HR := Lib.hid hR
  clear hR
  have VG := Lib.hid (fun w h1 h2 h3 => isGrid_c u1 u2 u3 A B C w h1 h2 h3)
  have hg := gridB_iff (A := A) (B := B) (C := C)
  unfold modelsI at HR
  obtain ⟨a1, n1, c1, rfl, s1⟩ := h1.sl
  obtain ⟨a2, n2, c2, rfl, s2⟩ := h2.sl
  obtain ⟨a3, n3, c3, rfl, s3⟩ := h3.sl
  clear s1 s2 s3
  rcases hG : gridB A B C with _ | _ <;> rw [hG] at VG HR hg <;> simp only [Bool.not_true, Bool.not_false, if_true, if_false, Bool.false_eq_true] at HR
  · clear hg hG
    go_enter Try.func38, Try.ntmps38
    go_wp2_with (first | (go_at_call 75; refine Calls.mono (VG.out _ (h1.bel ?_) (h2.bel ?_) (h3.bel ?_)) ?_; (focus (repeat (first | with_reducible exact Bel.refl _ | with_reducible assumption | apply Bel.ext | apply Bel.alloc | apply Bel.drew | exact Bel.refl _))); (focus (repeat (first | with_reducible exact Bel.refl _ | with_reducible assumption | apply Bel.ext | apply Bel.alloc | apply Bel.drew | exact Bel.refl _))); (focus (repeat (first | with_reducible exact Bel.refl _ | with_reducible assumption | apply Bel.ext | apply Bel.alloc | apply Bel.drew | exact Bel.refl _))); rintro ee ww ⟨rfl, _, rfl⟩))
    rw [← HR.out]
    exact RetRow.mk' rfl (by (repeat (first | with_reducible exact Bel.refl _ | with_reducible assumption | apply Bel.ext | apply Bel.alloc | apply Bel.drew | exact Bel.refl _ | refine Bel.set ?_ (by first | (simp; done) | (simp [go_sem]; done) | omega) _)) : Bel _ _) (World.ownsRow_nil _ _ _ _)
  · obtain ⟨_, _, _, f1, f2, f3, _⟩ := hg.1 rfl
    have VM := Lib.hid (fun w h1 h2 h3 => models_c (.slice a1 n1 c1) (.slice a2 n2 c2) (.slice a3 n3 c3) A B C w h1 h2 h3 f1 f2 f3)
    clear hg hG
    go_enter Try.func38, Try.ntmps38
    go_wp2_with (first | (go_at_call 75; refine Calls.mono (VG.out _ (h1.bel ?_) (h2.bel ?_) (h3.bel ?_)) ?_; (focus (repeat (first | with_reducible exact Bel.refl _ | with_reducible assumption | apply Bel.ext | apply Bel.alloc | apply Bel.drew | exact Bel.refl _))); (focus (repeat (first | with_reducible exact Bel.refl _ | with_reducible assumption | apply Bel.ext | apply Bel.alloc | apply Bel.drew | exact Bel.refl _))); (focus (repeat (first | with_reducible exact Bel.refl _ | with_reducible assumption | apply Bel.ext | apply Bel.alloc | apply Bel.drew | exact Bel.refl _))); rintro ee ww ⟨rfl, _, rfl⟩) | (go_at_call 76; refine Calls.mono (VM.out _ (h1.bel ?_) (h2.bel ?_) (h3.bel ?_)) ?_; (focus (repeat (first | with_reducible exact Bel.refl _ | with_reducible assumption | apply Bel.ext | apply Bel.alloc | apply Bel.drew | exact Bel.refl _))); (focus (repeat (first | with_reducible exact Bel.refl _ | with_reducible assumption | apply Bel.ext | apply Bel.alloc | apply Bel.drew | exact Bel.refl _))); (focus (repeat (first | with_reducible exact Bel.refl _ | with_reducible assumption | apply Bel.ext | apply Bel.alloc | apply Bel.drew | exact Bel.refl _))); rintro ee ww ⟨v0, g0, rfl, rfl, hown⟩))
    rw [← HR.out]
    exact RetRow.mk' rfl (by (repeat (first | with_reducible exact Bel.refl _ | with_reducible assumption | apply Bel.ext | apply Bel.alloc | apply Bel.drew | exact Bel.refl _ | refine Bel.set ?_ (by first | (simp; done) | (simp [go_sem]; done) | omega) _)) : Bel _ _) (own_mono hown (bel_size (by (repeat (first | with_reducible exact Bel.refl _ | with_reducible assumption | apply Bel.ext | apply Bel.alloc | apply Bel.drew | exact Bel.refl _ | refine Bel.set ?_ (by first | (simp; done) | (simp [go_sem]; done) | omega) _)) : Bel w _)))
set_option maxHeartbeats 2000000 in
theorem sModelsOf_c (u1 u2 u3 : Value) (A B C : List Int) (w : World) (h1 : Rd celI w u1 A) (h2 : Rd celI w u2 B) (h3 : Rd celI w u3 C) :
    Calls Try.prog 36 #[.agg #[u1, u2, u3]] w (RetRow 25 3 (fun v => .tuple #[v, .int .i64 (modelsI A B C).2]) (modelsI A B C).1.length (cel3.row (modelsI A B C).1) w) := by
  generalize hR : RetRow _ _ _ _ _ w = R
  have HR := Lib.hid hR
  clear hR
  have VG := Lib.hid (fun b W h1 h2 h3 hb k0 k1 k2 => l14Grid_c b u1 u2 u3 A B C W h1 h2 h3 hb k0 k1 k2)
  have hg := gridB_iff (A := A) (B := B) (C := C)
  unfold modelsI at HR
  obtain ⟨a1, n1, c1, rfl, s1⟩ := h1.sl
  obtain ⟨a2, n2, c2, rfl, s2⟩ := h2.sl
  obtain ⟨a3, n3, c3, rfl, s3⟩ := h3.sl
  clear s1 s2 s3
  rcases hG : gridB A B C with _ | _ <;> rw [hG] at VG HR hg <;> simp only [Bool.not_true, Bool.not_false, if_true, if_false, Bool.false_eq_true] at HR
  · clear hg hG
    go_enter Try.func36, Try.ntmps36
    go_wp2_with (first | (go_at_call 72; refine Calls.mono (VG.out _ _ (h1.bel ?_) (h2.bel ?_) (h3.bel ?_) (by simp) (by simp [go_sem]) (by simp [go_sem]) (by simp [go_sem])) ?_; (focus (repeat (first | with_reducible exact Bel.refl _ | with_reducible assumption | apply Bel.ext | apply Bel.alloc | apply Bel.drew | exact Bel.refl _))); (focus (repeat (first | with_reducible exact Bel.refl _ | with_reducible assumption | apply Bel.ext | apply Bel.alloc | apply Bel.drew | exact Bel.refl _))); (focus (repeat (first | with_reducible exact Bel.refl _ | with_reducible assumption | apply Bel.ext | apply Bel.alloc | apply Bel.drew | exact Bel.refl _))); rintro ee ww ⟨rfl, _, rfl⟩))
    rw [← HR.out]
    exact RetRow.mk' rfl (by (repeat (first | with_reducible exact Bel.refl _ | with_reducible assumption | apply Bel.ext | apply Bel.alloc | apply Bel.drew | exact Bel.refl _ | refine Bel.set ?_ (by first | (simp; done) | (simp [go_sem]; done) | omega) _)) : Bel _ _) (World.ownsRow_nil _ _ _ _)
  · obtain ⟨_, _, _, f1, f2, f3, _⟩ := hg.1 rfl
    have VM := Lib.hid (fun b W h1 h2 h3 hb k0 k1 k2 => l14Models_c b (.slice a1 n1 c1) (.slice a2 n2 c2) (.slice a3 n3 c3) A B C W h1 h2 h3 f1 f2 f3 hb k0 k1 k2)
    clear hg hG
    go_enter Try.func36, Try.ntmps36
    go_wp2_with (first | (go_at_call 72; refine Calls.mono (VG.out _ _ (h1.bel ?_) (h2.bel ?_) (h3.bel ?_) (by simp) (by simp [go_sem]) (by simp [go_sem]) (by simp [go_sem])) ?_; (focus (repeat (first | with_reducible exact Bel.refl _ | with_reducible assumption | apply Bel.ext | apply Bel.alloc | apply Bel.drew | exact Bel.refl _))); (focus (repeat (first | with_reducible exact Bel.refl _ | with_reducible assumption | apply Bel.ext | apply Bel.alloc | apply Bel.drew | exact Bel.refl _))); (focus (repeat (first | with_reducible exact Bel.refl _ | with_reducible assumption | apply Bel.ext | apply Bel.alloc | apply Bel.drew | exact Bel.refl _))); rintro ee ww ⟨rfl, _, rfl⟩) | (go_at_call 73; refine Calls.mono (VM.out _ _ (h1.bel ?_) (h2.bel ?_) (h3.bel ?_) (by first | (simp; done) | (simp [go_sem]; done)) (by simp [go_sem]) (by simp [go_sem]) (by simp [go_sem])) ?_; (focus (repeat (first | with_reducible exact Bel.refl _ | with_reducible assumption | apply Bel.ext | apply Bel.alloc | apply Bel.drew | exact Bel.refl _))); (focus (repeat (first | with_reducible exact Bel.refl _ | with_reducible assumption | apply Bel.ext | apply Bel.alloc | apply Bel.drew | exact Bel.refl _))); (focus (repeat (first | with_reducible exact Bel.refl _ | with_reducible assumption | apply Bel.ext | apply Bel.alloc | apply Bel.drew | exact Bel.refl _))); rintro ee ww ⟨v0, g0, rfl, rfl, hown⟩))
    rw [← HR.out]
    exact RetRow.mk' rfl (by (repeat (first | with_reducible exact Bel.refl _ | with_reducible assumption | apply Bel.ext | apply Bel.alloc | apply Bel.drew | exact Bel.refl _ | refine Bel.set ?_ (by first | (simp; done) | (simp [go_sem]; done) | omega) _)) : Bel _ _) (own_mono hown (bel_size (by (repeat (first | with_reducible exact Bel.refl _ | with_reducible assumption | apply Bel.ext | apply Bel.alloc | apply Bel.drew | exact Bel.refl _ | refine Bel.set ?_ (by first | (simp; done) | (simp [go_sem]; done) | omega) _)) : Bel w _)))
end Go.Proofs.Ytjdcdcfhnpephaa
