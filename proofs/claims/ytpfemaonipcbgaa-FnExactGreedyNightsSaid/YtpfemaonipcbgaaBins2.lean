/- Bins that are shown in a window, or in no window: what the reference returns. -/
import Derived.Test.YtpfemaonipcbgaaShown2
namespace Go.Proofs.Ytpfemaonipcbgaa
open Go.RowKit

set_option maxHeartbeats 4000000 in
theorem l16All_c (e p : Int) (N : Nat) (h : ephB e p = true) (n1 : 1 ≤ N) (n2 : N ≤ 50) (n3 : (N : Int) ≤ p) (u : Value) (xs : List (Int × Int)) (hx : windowsB xs = true) (w : World) (hu : Rd cel2 w u xs) :
    Calls Try.prog 45 #[.agg #[.int .i64 e, .int .i64 p], u, .int .i64 (N : Int)] w (RetRow 4 1 (fun v => v) N (celB.row (mapB (allF e p N xs) N)) w) := by
  generalize hR : RetRow _ _ _ _ _ w = R
  have HR := Lib.hid hR
  clear hR
  obtain ⟨a, m, c, rfl, hs⟩ := hu.sl
  have hcap := hs.le; have hmax := hs.cap
  unfold maxLen at hmax
  have HL := Lib.hid hs.len
  have hget : ∀ (k : Nat) (x : Int × Int), xs[k]? = some x → 0 ≤ x.1 ∧ x.1 ≤ 10000000 ∧ 0 ≤ x.2 ∧ x.2 ≤ 10000000 ∧ x.1 ≤ x.2 := fun k x hx' => windowsB_get hx hx'
  have HG := Lib.hid hget
  have HE := Lib.hid h
  have hlen := windowsB_len hx
  rw [← HL.out] at hlen
  clear hget hx h
  go_enter Try.func45, Try.ntmps45
  go_wp2_with (at_make; refine wpList_make_fill rfl _ _ 62 4 1 rfl Try.underlying62 (.bool false) rfl (by kernel_rfl) N rfl rfl (by omega) (by omega) ?_; intro g5 hown)
  have HOW := Lib.hid hown
  clear hown
  have hwA : Bel w (w.alloc (Obj.cells #[.int .i64 e, .int .i64 p] 33)) := by (repeat (first | with_reducible exact Bel.refl _ | with_reducible assumption | apply Bel.ext | apply Bel.alloc | apply Bel.drew | exact Bel.refl _ | refine Bel.set ?_ (by first | (simp; done) | (simp [go_sem]; done) | omega) _))
  have hc0 : (w.alloc (Obj.cells #[.int .i64 e, .int .i64 p] 33)).cell? ⟨w.heap.size, 0, none⟩ = some (.int .i64 e) := by simp [go_sem]
  have hc1 : (w.alloc (Obj.cells #[.int .i64 e, .int .i64 p] 33)).cell? ⟨w.heap.size, 1, none⟩ = some (.int .i64 p) := by simp [go_sem]
  have hz0 : w.heap.size < (w.alloc (Obj.cells #[.int .i64 e, .int .i64 p] 33)).heap.size := by first | (simp; done) | (simp; omega)
  have hAz := Lib.hid (show (w.alloc (Obj.cells #[.int .i64 e, .int .i64 p] 33)).heap.size = w.heap.size + 1 from by simp)
  generalize (w.alloc (Obj.cells #[.int .i64 e, .int .i64 p] 33)) = A at *
  have hM := mem_nil A
  have hsA := hs.bel hwA
  rw [← hAz.out]
  go_loopw [7, 8] (fun o i wr => ∃ k : Nat, k ≤ m ∧ i = .int .i64 k ∧ Bel A wr ∧ Hid (wr.ownsRow A.heap.size 4 1 o N (celB.row (mapB (allF e p N (xs.take k)) N)))) (fun _ i _ => m - (intOf i).toNat)
  case atStart => exact ⟨0, Nat.zero_le _, rfl, by (repeat (first | with_reducible exact Bel.refl _ | with_reducible assumption | apply Bel.ext | apply Bel.alloc | apply Bel.drew | exact Bel.refl _ | refine Bel.set ?_ (by first | (simp; done) | (simp [go_sem]; done) | omega) _)), Lib.hid (own_cast (own_bel HOW.out (by (repeat (first | with_reducible exact Bel.refl _ | with_reducible assumption | apply Bel.ext | apply Bel.alloc | apply Bel.drew | exact Bel.refl _ | refine Bel.set ?_ (by first | (simp; done) | (simp [go_sem]; done) | omega) _)))) rfl (rep_false N))⟩
  case round =>
    clear HOW
    obtain ⟨k, hk, rfl, hbel, hown⟩ := hrel
    obtain ⟨g4, rfl⟩ := ext_ex hbel
    by_cases hlt : k < m
    · obtain ⟨bb, off, rfl, hb⟩ := hsA.base hlt
      obtain ⟨x, y, hx, hd0, hd1⟩ := hsA.at2 hlt
      obtain ⟨x1, x2, y1, y2, xy⟩ := HG.out k _ hx.out
      dsimp only at x1 x2 y1 y2 xy
      have HA := Lib.hid (allF_take (e := e) (p := p) (n := (N : Int)) hx.out)
      have HS := Lib.hid (fun w => l16Shown_c e p x y N HE.out x1 x2 y1 y2 n1 n2 n3 xy w)
      generalize allF e p N (xs.take k) = F at *
      generalize shB e p N (x, y) = S at *
      have RO : Rd celB (ext A g4) u7 (mapB F N) := rd_of_row (own_cast hown.out (mapB_len F N).symm rfl)
      go_wp2_with fail
      go_region_held3 (fun q => q.cell? ⟨w.heap.size, 0, none⟩ = some (.int .i64 e) ∧ q.cell? ⟨w.heap.size, 1, none⟩ = some (.int .i64 p) ∧ q.cell? ⟨bb, off + k * 2, none⟩ = some (.int .i64 x) ∧ q.cell? ⟨bb, off + k * 2 + 1, none⟩ = some (.int .i64 y)) (simp [go_sem, *]) (first | (go_at_call 42; refine Calls.mono (HS.out _) ?_; rintro ee ww ⟨v1, g1, rfl, rfl, hrow1⟩) | (go_at_call 49; refine Calls.mono (l16Join_c F S N (by omega) _ _ _ (RO.bel ?_) (Rd.bel (rd_of_row (own_cast hrow1 (mapB_len S N).symm rfl)) ?_)) ?_; (focus (repeat (first | with_reducible exact Bel.refl _ | with_reducible assumption | apply Bel.ext | apply Bel.alloc | apply Bel.drew | exact Bel.refl _))); (focus (repeat (first | with_reducible exact Bel.refl _ | with_reducible assumption | apply Bel.ext | apply Bel.alloc | apply Bel.drew | exact Bel.refl _))); rintro ee ww ⟨v2, g2, rfl, rfl, hrow2⟩))
      all_goals go_wp2
      all_goals go_roundw
      case rel =>
        refine ⟨k + 1, by omega, by go_num, by (repeat (first | with_reducible exact Bel.refl _ | with_reducible assumption | apply Bel.ext | apply Bel.alloc | apply Bel.drew | exact Bel.refl _ | refine Bel.set ?_ (by first | (simp; done) | (simp [go_sem]; done) | omega) _)), Lib.hid ?_⟩
        rw [HA.out]
        exact own_mono hrow2 (bel_size (by (repeat (first | with_reducible exact Bel.refl _ | with_reducible assumption | apply Bel.ext | apply Bel.alloc | apply Bel.drew | exact Bel.refl _ | refine Bel.set ?_ (by first | (simp; done) | (simp [go_sem]; done) | omega) _)) : Bel A _))
      case measure => simp [intOf]; omega
    · have hk' : k = m := by omega
      subst hk'
      have hO := hown.out
      rw [List.take_of_length_le (by rw [HL.out]; exact Nat.le_refl _)] at hO
      have HO := Lib.hid hO
      clear hO hown
      go_wp2
      rw [← HR.out]
      refine RetRow.mk' rfl ?_ (own_mono (own_bel HO.out ?_) hwA.size)
      · exact Below.trans hwA (Below.mono (by (repeat (first | with_reducible exact Bel.refl _ | with_reducible assumption | apply Bel.ext | apply Bel.alloc | apply Bel.drew | exact Bel.refl _ | refine Bel.set ?_ (by first | (simp; done) | (simp [go_sem]; done) | omega) _)) : Bel A _) hwA.size)
      · (repeat (first | with_reducible exact Bel.refl _ | with_reducible assumption | apply Bel.ext | apply Bel.alloc | apply Bel.drew | exact Bel.refl _ | refine Bel.set ?_ (by first | (simp; done) | (simp [go_sem]; done) | omega) _))
theorem allF_one (e p n : Int) (x : Int × Int) : allF e p n [x] = shB e p n x := by funext i; simp [allF]
set_option maxHeartbeats 1000000 in
theorem sMissingBins_c (e p n : Int) (u : Value) (xs : List (Int × Int)) (w : World) (hu : Rd cel2 w u xs) :
    Calls Try.prog 22 #[.agg #[.int .i64 e, .int .i64 p], u, .int .i64 n] w (RetRow 2 1 (fun v => .tuple #[v, .int .i64 (binsI e p n xs false).2]) (binsI e p n xs false).1.length (celI.row (binsI e p n xs false).1) w) := by
  generalize hR : RetRow _ _ _ _ _ w = R
  have HR := Lib.hid hR
  clear hR
  have HS := Lib.hid (fun w hu => l16Bins_c e p n u xs w hu)
  have hok := @codeB_ok e p n xs
  unfold binsI at HR
  generalize codeB e p n xs = c at *
  by_cases hc : c = 0
  · subst hc
    obtain ⟨h1, h2, n1, n2, n3⟩ := hok rfl
    clear hok
    simp only [ne_eq, not_true_eq_false, if_false] at HR HS
    obtain ⟨N, rfl⟩ : ∃ N : Nat, n = (N : Int) := ⟨n.toNat, by omega⟩
    simp only [Int.toNat_natCast] at HR HS
    have HA := Lib.hid (fun w hu => l16All_c e p N h1 (by omega) (by omega) n3 u xs h2 w hu)
    have HB := Lib.hid (fun u w hu => l16List_c (allF e p N xs) N (by omega) false u w hu)
    clear h1 h2
    generalize allF e p N xs = F at *
    generalize idxL (fun i => F i == false) N = ys at *
    go_enter Try.func22, Try.ntmps22
    go_wp2_with (first | (go_at_call 40; refine Calls.mono (HS.out _ (hu.bel ?_)) ?_; (focus (repeat (first | with_reducible exact Bel.refl _ | with_reducible assumption | apply Bel.ext | apply Bel.alloc | apply Bel.drew | exact Bel.refl _))); rintro ee ww ⟨rfl, _, rfl⟩) | (go_at_call 45; refine Calls.mono (HA.out _ (hu.bel ?_)) ?_; (focus (repeat (first | with_reducible exact Bel.refl _ | with_reducible assumption | apply Bel.ext | apply Bel.alloc | apply Bel.drew | exact Bel.refl _))); rintro ee ww ⟨v0, g0, rfl, rfl, hown⟩) | (go_at_call 41; refine Calls.mono (HB.out _ _ (Rd.bel (rd_of_row (own_cast hown (mapB_len F N).symm rfl)) ?_)) ?_; (focus (repeat (first | with_reducible exact Bel.refl _ | with_reducible assumption | apply Bel.ext | apply Bel.alloc | apply Bel.drew | exact Bel.refl _))); rintro ee ww ⟨v1, g1, rfl, rfl, hown1⟩))
    rw [← HR.out]
    exact RetRow.mk' rfl (by (repeat (first | with_reducible exact Bel.refl _ | with_reducible assumption | apply Bel.ext | apply Bel.alloc | apply Bel.drew | exact Bel.refl _ | refine Bel.set ?_ (by first | (simp; done) | (simp [go_sem]; done) | omega) _)) : Bel _ _) (own_mono hown1 (bel_size (by (repeat (first | with_reducible exact Bel.refl _ | with_reducible assumption | apply Bel.ext | apply Bel.alloc | apply Bel.drew | exact Bel.refl _ | refine Bel.set ?_ (by first | (simp; done) | (simp [go_sem]; done) | omega) _)) : Bel w _)))
  · clear hok
    have hc' : (c != 0) = true := by simp [hc]
    simp only [ne_eq, hc, not_false_eq_true, if_true] at HR HS
    clear hc
    go_enter Try.func22, Try.ntmps22
    go_wp2_with (first | (go_at_call 40; refine Calls.mono (HS.out _ (hu.bel ?_)) ?_; (focus (repeat (first | with_reducible exact Bel.refl _ | with_reducible assumption | apply Bel.ext | apply Bel.alloc | apply Bel.drew | exact Bel.refl _))); rintro ee ww ⟨rfl, _, rfl⟩))
    rw [← HR.out]
    exact RetRow.mk' rfl (by (repeat (first | with_reducible exact Bel.refl _ | with_reducible assumption | apply Bel.ext | apply Bel.alloc | apply Bel.drew | exact Bel.refl _ | refine Bel.set ?_ (by first | (simp; done) | (simp [go_sem]; done) | omega) _)) : Bel _ _) (World.ownsRow_nil _ _ _ _)
set_option maxHeartbeats 1000000 in
theorem sShownBins_c (e p x y n : Int) (w : World) :
    Calls Try.prog 19 #[.agg #[.int .i64 e, .int .i64 p], .agg #[.int .i64 x, .int .i64 y], .int .i64 n] w (RetRow 2 1 (fun v => .tuple #[v, .int .i64 (binsI e p n [(x, y)] true).2]) (binsI e p n [(x, y)] true).1.length (celI.row (binsI e p n [(x, y)] true).1) w) := by
  generalize hR : RetRow _ _ _ _ _ w = R
  have HR := Lib.hid hR
  clear hR
  have HS := Lib.hid (fun u w hu => l16Bins_c e p n u [(x, y)] w hu)
  have hok := @codeB_ok e p n [(x, y)]
  unfold binsI at HR
  generalize codeB e p n [(x, y)] = c at *
  by_cases hc : c = 0
  · subst hc
    obtain ⟨h1, h2, n1, n2, n3⟩ := hok rfl
    obtain ⟨x1, x2, y1, y2, xy⟩ := windowsB_get h2 (k := 0) (x := (x, y)) rfl
    dsimp only at x1 x2 y1 y2 xy
    clear hok
    simp only [ne_eq, not_true_eq_false, if_false] at HR HS
    obtain ⟨N, rfl⟩ : ∃ N : Nat, n = (N : Int) := ⟨n.toNat, by omega⟩
    simp only [Int.toNat_natCast] at HR HS
    rw [allF_one] at HR
    have HA := Lib.hid (fun w => l16Shown_c e p x y N h1 x1 x2 y1 y2 (by omega) (by omega) n3 xy w)
    have HB := Lib.hid (fun u w hu => l16List_c (shB e p N (x, y)) N (by omega) true u w hu)
    clear h1 h2
    generalize shB e p N (x, y) = F at *
    generalize idxL (fun i => F i == true) N = ys at *
    go_enter Try.func19, Try.ntmps19
    go_wp2_with (first | (go_at_call 40; refine Calls.mono (HS.out _ _ (rd_lit2 ?_)) ?_; (focus (first | (simp; done) | rfl)); rintro ee ww ⟨rfl, _, rfl⟩) | (go_at_call 42; refine Calls.mono (HA.out _) ?_; rintro ee ww ⟨v0, g0, rfl, rfl, hown⟩) | (go_at_call 41; refine Calls.mono (HB.out _ _ (Rd.bel (rd_of_row (own_cast hown (mapB_len F N).symm rfl)) ?_)) ?_; (focus (repeat (first | with_reducible exact Bel.refl _ | with_reducible assumption | apply Bel.ext | apply Bel.alloc | apply Bel.drew | exact Bel.refl _))); rintro ee ww ⟨v1, g1, rfl, rfl, hown1⟩))
    rw [← HR.out]
    exact RetRow.mk' rfl (by (repeat (first | with_reducible exact Bel.refl _ | with_reducible assumption | apply Bel.ext | apply Bel.alloc | apply Bel.drew | exact Bel.refl _ | refine Bel.set ?_ (by first | (simp; done) | (simp [go_sem]; done) | omega) _)) : Bel _ _) (own_mono hown1 (bel_size (by (repeat (first | with_reducible exact Bel.refl _ | with_reducible assumption | apply Bel.ext | apply Bel.alloc | apply Bel.drew | exact Bel.refl _ | refine Bel.set ?_ (by first | (simp; done) | (simp [go_sem]; done) | omega) _)) : Bel w _)))
  · clear hok
    have hc' : (c != 0) = true := by simp [hc]
    simp only [ne_eq, hc, not_false_eq_true, if_true] at HR HS
    clear hc
    go_enter Try.func19, Try.ntmps19
    go_wp2_with (first | (go_at_call 40; refine Calls.mono (HS.out _ _ (rd_lit2 ?_)) ?_; (focus (first | (simp; done) | rfl)); rintro ee ww ⟨rfl, _, rfl⟩))
    rw [← HR.out]
    exact RetRow.mk' rfl (by (repeat (first | with_reducible exact Bel.refl _ | with_reducible assumption | apply Bel.ext | apply Bel.alloc | apply Bel.drew | exact Bel.refl _ | refine Bel.set ?_ (by first | (simp; done) | (simp [go_sem]; done) | omega) _)) : Bel _ _) (World.ownsRow_nil _ _ _ _)
end Go.Proofs.Ytpfemaonipcbgaa
