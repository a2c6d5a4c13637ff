/- The cycles of the eclipses that lie in one window: what both sides return. -/
import Derived.Test.YtpfemaonipcbgaaFits
import Derived.Test.YtpfemaonipcbgaaRowInt
import Derived.Test.YtpfemaonipcbgaaMem
namespace Go.Proofs.Ytpfemaonipcbgaa
open Go.RowKit

theorem own_cast {w : World} {B : Nat} {e : TypeId} {size : Nat} {v : Value} {n m : Nat} {xs ys : List Value} (h : w.ownsRow B e size v n xs) (hn : n = m) (hx : xs = ys) : w.ownsRow B e size v m ys := by subst hn hx; exact h
theorem appIntW : AppF Try.prog 28 2 1 8 := appF_of (z := .int .i64 0) Try.underlying28 (by kernel_rfl) rfl
set_option maxHeartbeats 8000000 in
theorem WholeEclipses_c (a b c e p : Int) (u : Value) (xs : List (Int × Int)) (w : World) (hu : Rd cel2 w u xs) :
    Calls Try.prog 13 #[.agg #[.int .i64 a, .int .i64 b, .int .i64 c], .agg #[.int .i64 e, .int .i64 p], u] w (RetRow 2 1 (fun v => .tuple #[v, .int .i64 (wholeI a b c e p xs).2]) (wholeI a b c e p xs).1.length (celI.row (wholeI a b c e p xs).1) w) := by
  generalize hR : RetRow _ _ _ _ _ w = R
  have HR := Lib.hid hR
  clear hR
  have hu' := hu
  obtain ⟨aa, n, cc, rfl, hs⟩ := hu'.sl
  have hcap := hs.le; have hmax := hs.cap
  unfold maxLen at hmax
  have HL := Lib.hid hs.len
  have VM := Lib.hid (fun w => ValidModel_c a b c w)
  have VF := Lib.hid (fun w hu => fits_c e p (.slice aa n cc) xs true w hu)
  unfold wholeI at HR
  unfold fitsI at VF
  rcases h1 : modelB a b c with _ | _ <;> rcases h2 : (ephB e p && windowsB xs) with _ | _ <;> simp only [h1, h2, Bool.not_true, Bool.not_false, if_true, if_false, Bool.false_eq_true] at HR VM VF
  case true.true =>
    simp only [Bool.and_eq_true] at h2
    obtain ⟨h2, h3⟩ := h2
    obtain ⟨m1, m2, m3, m4, m5⟩ := modelB_iff.1 h1
    obtain ⟨e1, e2, p1, p2⟩ := ephB_iff.1 h2
    have hget : ∀ (k : Nat) (x : Int × Int), xs[k]? = some x → 0 ≤ x.1 ∧ x.1 ≤ 10000000 ∧ 0 ≤ x.2 ∧ x.2 ≤ 10000000 ∧ x.1 ≤ x.2 := fun k x hx => windowsB_get h3 hx
    have HG := Lib.hid hget
    have hlen := windowsB_len h3
    rw [← HL.out] at hlen
    clear h1 h2 h3 hget
    go_enter Try.func13, Try.ntmps13
    go_wp2_with (first | (go_at_call 34; refine Calls.mono (VM.out _) ?_; rintro ee ww ⟨rfl, _, rfl⟩) | (go_at_call 35; refine Calls.mono (VF.out _ (hu.bel ?_)) ?_; (focus (repeat (first | with_reducible exact Bel.refl _ | with_reducible assumption | apply Bel.ext | apply Bel.alloc | apply Bel.drew | exact Bel.refl _))); rintro ee ww ⟨rfl, _, rfl⟩))
    have hwA : Bel w ((w.alloc (Obj.cells #[.int .i64 a, .int .i64 b, .int .i64 c] 31)).alloc (Obj.cells #[.int .i64 e, .int .i64 p] 33)) := by (repeat (first | with_reducible exact Bel.refl _ | with_reducible assumption | apply Bel.ext | apply Bel.alloc | apply Bel.drew | exact Bel.refl _ | refine Bel.set ?_ (by first | (simp; done) | (simp [go_sem]; done) | omega) _))
    have hc0 : ((w.alloc (Obj.cells #[.int .i64 a, .int .i64 b, .int .i64 c] 31)).alloc (Obj.cells #[.int .i64 e, .int .i64 p] 33)).cell? ⟨w.heap.size, 0, none⟩ = some (.int .i64 a) := by simp [go_sem]
    have hc1 : ((w.alloc (Obj.cells #[.int .i64 a, .int .i64 b, .int .i64 c] 31)).alloc (Obj.cells #[.int .i64 e, .int .i64 p] 33)).cell? ⟨w.heap.size, 1, none⟩ = some (.int .i64 b) := by simp [go_sem]
    have hc2 : ((w.alloc (Obj.cells #[.int .i64 a, .int .i64 b, .int .i64 c] 31)).alloc (Obj.cells #[.int .i64 e, .int .i64 p] 33)).cell? ⟨w.heap.size, 2, none⟩ = some (.int .i64 c) := by simp [go_sem]
    have hc3 : ((w.alloc (Obj.cells #[.int .i64 a, .int .i64 b, .int .i64 c] 31)).alloc (Obj.cells #[.int .i64 e, .int .i64 p] 33)).cell? ⟨w.heap.size + 1, 0, none⟩ = some (.int .i64 e) := by simp [go_sem]
    have hc4 : ((w.alloc (Obj.cells #[.int .i64 a, .int .i64 b, .int .i64 c] 31)).alloc (Obj.cells #[.int .i64 e, .int .i64 p] 33)).cell? ⟨w.heap.size + 1, 1, none⟩ = some (.int .i64 p) := by simp [go_sem]
    have hz0 : w.heap.size < ((w.alloc (Obj.cells #[.int .i64 a, .int .i64 b, .int .i64 c] 31)).alloc (Obj.cells #[.int .i64 e, .int .i64 p] 33)).heap.size := by first | (simp; done) | (simp; omega)
    have hz1 : w.heap.size + 1 < ((w.alloc (Obj.cells #[.int .i64 a, .int .i64 b, .int .i64 c] 31)).alloc (Obj.cells #[.int .i64 e, .int .i64 p] 33)).heap.size := by first | (simp; done) | (simp; omega)
    generalize ((w.alloc (Obj.cells #[.int .i64 a, .int .i64 b, .int .i64 c] 31)).alloc (Obj.cells #[.int .i64 e, .int .i64 p] 33)) = A at *
    have hM := mem_nil A
    have hsA := hs.bel hwA
    go_loopw [9, 27] (fun o i wr => ∃ k : Nat, k ≤ n ∧ i = .int .i64 k ∧ Bel A wr ∧ Hid ((cyAll b e p (xs.take k)).length ≤ 200) ∧ Hid (wr.ownsRow A.heap.size 2 1 o (cyAll b e p (xs.take k)).length (celI.row (cyAll b e p (xs.take k))))) (fun _ i _ => n - (intOf i).toNat)
    case atStart => exact ⟨0, by omega, by go_num, by (repeat (first | with_reducible exact Bel.refl _ | with_reducible assumption | apply Bel.ext | apply Bel.alloc | apply Bel.drew | exact Bel.refl _ | refine Bel.set ?_ (by first | (simp; done) | (simp [go_sem]; done) | omega) _)), Lib.hid (by simp [cyAll]), Lib.hid (by refine own_empty _ _ _ _ ?_; exact bel_size (by (repeat (first | with_reducible exact Bel.refl _ | with_reducible assumption | apply Bel.ext | apply Bel.alloc | apply Bel.drew | exact Bel.refl _ | refine Bel.set ?_ (by first | (simp; done) | (simp [go_sem]; done) | omega) _))))⟩
    case round =>
      obtain ⟨k, hk, rfl, hbel, hle, hown⟩ := hrel
      obtain ⟨g, rfl⟩ := ext_ex hbel
      by_cases hlt : k < n
      · obtain ⟨bb, off, rfl, hb⟩ := hsA.base hlt
        obtain ⟨x, y, hx, hd0, hd1⟩ := hsA.at2 hlt
        obtain ⟨x1, x2, y1, y2, xy⟩ := HG.out k _ hx.out
        dsimp only at x1 x2 y1 y2 xy
        have HT := Lib.hid (cyAll_take (h := b) (e := e) (p := p) hx.out)
        have HTL := Lib.hid (cyAll_take_le b e p xs (k + 1))
        have HLo := Lib.hid (ceil_c (x + b - e) p (by omega) (by omega) (by omega))
        have HHi := Lib.hid (floorDiv_c (y - b - e) p (by omega) (by omega) (by omega))
        have b1 := ceilI_bd (a := x + b - e) (b := p) (by omega) (-30000000) 30000000 (by omega) (by omega) (by omega) (by omega)
        have b2 := floor_bd (a := y - b - e) (b := p) (by omega) (-30000000) 30000000 (by omega) (by omega) (by omega) (by omega)
        change Hid (cyAll b e p (xs.take (k + 1)) = cyAll b e p (xs.take k) ++ upTo (ceilI (x + b - e) p) ((y - b - e) / p)) at HT
        generalize ceilI (x + b - e) p = lo at *
        generalize (y - b - e) / p = hi at *
        obtain ⟨l1, l2⟩ := b1
        obtain ⟨l3, l4⟩ := b2
        generalize cyAll b e p (xs.take k) = L at *
        obtain ⟨oa, oc, rfl, o1, o2⟩ := own_len hown.out
        unfold maxLen at o2
        have hle' := hle.out
        by_cases hbig : 200 < hi - lo + 1 + (L.length : Int)
        · go_wp2_with (first | (go_at_call 36; refine Calls.mono (HLo.out _) ?_; rintro ee ww ⟨rfl, rfl⟩) | (go_at_call 37; refine Calls.mono (HHi.out _) ?_; rintro ee ww ⟨rfl, rfl⟩) | (go_at_call 38; refine Calls.mono (countJ_c _ _ _ (by omega) _) ?_; rintro ee ww ⟨rfl, rfl⟩))
          have hfull : 200 < (cyAll b e p xs).length := by
            have h1 := HTL.out
            rw [HT.out, List.length_append, upTo_len] at h1
            omega
          have h := HR.out
          rw [if_pos hfull] at h
          rw [← h]
          refine RetRow.mk' rfl ?_ (World.ownsRow_nil _ _ _ _)
          exact Below.trans hwA (Below.mono (by (repeat (first | with_reducible exact Bel.refl _ | with_reducible assumption | apply Bel.ext | apply Bel.alloc | apply Bel.drew | exact Bel.refl _ | refine Bel.set ?_ (by first | (simp; done) | (simp [go_sem]; done) | omega) _)) : Bel A _) hwA.size)
        · go_wp2_with (first | (go_at_call 36; refine Calls.mono (HLo.out _) ?_; rintro ee ww ⟨rfl, rfl⟩) | (go_at_call 37; refine Calls.mono (HHi.out _) ?_; rintro ee ww ⟨rfl, rfl⟩) | (go_at_call 38; refine Calls.mono (countJ_c _ _ _ (by omega) _) ?_; rintro ee ww ⟨rfl, rfl⟩))
          go_loopw [9, 14] (fun o i wr => ∃ j : Nat, (j = 0 ∨ lo + j ≤ hi + 1) ∧ i = .int .i64 (lo + j) ∧ Bel A wr ∧ Hid (wr.ownsRow A.heap.size 2 1 o (L.length + j) (celI.row (L ++ (upTo lo hi).take j)))) (fun _ i _ => (hi + 1 - intOf i).toNat)
          case atStart => exact ⟨0, .inl rfl, by go_num, by (repeat (first | with_reducible exact Bel.refl _ | with_reducible assumption | apply Bel.ext | apply Bel.alloc | apply Bel.drew | exact Bel.refl _ | refine Bel.set ?_ (by first | (simp; done) | (simp [go_sem]; done) | omega) _)), Lib.hid (by simpa using own_bel hown.out (by (repeat (first | with_reducible exact Bel.refl _ | with_reducible assumption | apply Bel.ext | apply Bel.alloc | apply Bel.drew | exact Bel.refl _ | refine Bel.set ?_ (by first | (simp; done) | (simp [go_sem]; done) | omega) _))))⟩
          case round =>
            clear hown hM
            obtain ⟨j, hj, rfl, hbel2, hown⟩ := hrel
            obtain ⟨g2, rfl⟩ := ext_ex hbel2
            by_cases hl : lo + (j : Int) ≤ hi
            · go_wp2_with (first | (at_builtin; refine wpList_append_new rfl (.tmp 67) (.tmp 69) 28 2 1 8 rfl appIntW (by decide) A _ _ _ 1 [.int .i64 (lo + j)] rfl (by first | with_reducible rfl | (simp [go_sem]; done)) rfl (by intro u hu; simp at hu; first | (subst hu; rfl) | (rcases hu with rfl | rfl <;> rfl) | (rcases hu with rfl | rfl | rfl <;> rfl)) (own_bel hown.out ?_) ?_ (by omega) (by omega) ?_; (focus (repeat (first | with_reducible exact Bel.refl _ | with_reducible assumption | apply Bel.ext | apply Bel.alloc | apply Bel.drew | exact Bel.refl _))); (focus (repeat (first | with_reducible exact Bel.refl _ | with_reducible assumption | apply Bel.ext | apply Bel.alloc | apply Bel.drew | exact Bel.refl _))); intro v2 g2 hown2 hgr2))
              go_roundw
              case rel =>
                refine ⟨j + 1, .inr (by omega), by go_num, by (repeat (first | with_reducible exact Bel.refl _ | with_reducible assumption | apply Bel.ext | apply Bel.alloc | apply Bel.drew | exact Bel.refl _ | refine Bel.set ?_ (by first | (simp; done) | (simp [go_sem]; done) | omega) _)), Lib.hid ?_⟩
                rw [upTo_take hl, ← List.append_assoc, Cel.row_append, Cel.row_one, ← Nat.add_assoc]; exact hown2
              case measure => simp [intOf]; omega
            · have HF := Lib.hid (upTo_full (c := lo) (l := hi) (j := j) (by omega))
              have HJ := Lib.hid (show (upTo lo hi).length = j by rw [upTo_len]; omega)
              go_wp2
              go_roundw
              case rel =>
                refine ⟨k + 1, by omega, by go_num, by (repeat (first | with_reducible exact Bel.refl _ | with_reducible assumption | apply Bel.ext | apply Bel.alloc | apply Bel.drew | exact Bel.refl _ | refine Bel.set ?_ (by first | (simp; done) | (simp [go_sem]; done) | omega) _)), Lib.hid ?_, Lib.hid ?_⟩
                · rw [HT.out, List.length_append, HJ.out]; omega
                · rw [HT.out]
                  refine own_cast hown.out (by rw [List.length_append, HJ.out]) (by rw [HF.out])
              case measure => simp [intOf]; omega
      · have hk' : k = n := by omega
        subst hk'
        have hO := hown.out
        have hle' := hle.out
        rw [List.take_of_length_le (by rw [HL.out]; exact Nat.le_refl _)] at hO hle'
        have HO := Lib.hid hO
        clear hO hown
        have h := HR.out
        rw [if_neg (by omega)] at h
        have HR2 := Lib.hid h
        clear h hle hle' HR
        go_wp2
        rw [← HR2.out]
        refine RetRow.mk' rfl ?_ (own_mono (own_bel HO.out ?_) hwA.size)
        · exact Below.trans hwA (Below.mono (by (repeat (first | with_reducible exact Bel.refl _ | with_reducible assumption | apply Bel.ext | apply Bel.alloc | apply Bel.drew | exact Bel.refl _ | refine Bel.set ?_ (by first | (simp; done) | (simp [go_sem]; done) | omega) _)) : Bel A _) hwA.size)
        · (repeat (first | with_reducible exact Bel.refl _ | with_reducible assumption | apply Bel.ext | apply Bel.alloc | apply Bel.drew | exact Bel.refl _ | refine Bel.set ?_ (by first | (simp; done) | (simp [go_sem]; done) | omega) _))
  all_goals
    clear h1 h2
    go_enter Try.func13, Try.ntmps13
    go_wp2_with (first | (go_at_call 34; refine Calls.mono (VM.out _) ?_; rintro ee ww ⟨rfl, _, rfl⟩) | (go_at_call 35; refine Calls.mono (VF.out _ (hu.bel ?_)) ?_; (focus (repeat (first | with_reducible exact Bel.refl _ | with_reducible assumption | apply Bel.ext | apply Bel.alloc | apply Bel.drew | exact Bel.refl _))); rintro ee ww ⟨rfl, _, rfl⟩))
    rw [← HR.out]
    exact RetRow.mk' rfl (by (repeat (first | with_reducible exact Bel.refl _ | with_reducible assumption | apply Bel.ext | apply Bel.alloc | apply Bel.drew | exact Bel.refl _ | refine Bel.set ?_ (by first | (simp; done) | (simp [go_sem]; done) | omega) _)) : Bel _ _) (World.ownsRow_nil _ _ _ _)
end Go.Proofs.Ytpfemaonipcbgaa
