/- Means of neighbouring crossings: what both sides return. -/
import Derived.Test.YtknlkljflibjbaaCross
namespace Go.Proofs.Ytknlkljflibjbaa
open Go.RowKit

set_option maxRecDepth 100000 in
set_option maxHeartbeats 8000000 in
theorem ChordMiddles_c (u : Value) (xs : List (Int × Int)) (L : Int) (w : World) (hu : Rd cel2 w u xs) :
    Calls Try.prog 31 #[u, .int .i64 L] w (RetRow 57 2 (fun v => .tuple #[v, .int .i64 (midI xs L).2]) (midI xs L).1.length (cel2.row (midI xs L).1) w) := by
  generalize hR : RetRow _ _ _ _ _ w = R
  have HR := Lib.hid hR
  clear hR
  have HC := Lib.hid (fun w hu => crossings_c u xs L w hu)
  have hfine := crossI_fine xs L
  unfold midI at HR
  generalize crossI xs L = q at *
  obtain ⟨es, code⟩ := q
  dsimp only at HC HR hfine
  by_cases h1 : code = 0
  case neg =>
    simp only [ne_eq, h1, not_false_eq_true, if_true] at HR
    have h1' : (code == 0) = false := by simp [h1]
    have h1'' : (code != 0) = true := by simp [h1]
    clear h1
    go_enter Try.func31, Try.ntmps31
    go_wp2_with (first | (go_at_call 69; refine Calls.mono (HC.out _ (hu.bel ?_)) ?_; (focus (repeat (first | exact Bel.refl _ | apply Bel.ext | apply Bel.alloc | apply Bel.drew | refine Bel.set ?_ (by first | (simp; done) | (simp [go_sem]; done) | omega) _))); rintro ee ww ⟨v0, g0, rfl, rfl, hown⟩))
    rw [← HR.out]
    exact RetRow.mk' rfl (by (repeat (first | exact Bel.refl _ | apply Bel.ext | apply Bel.alloc | apply Bel.drew | refine Bel.set ?_ (by first | (simp; done) | (simp [go_sem]; done) | omega) _)) : Bel _ _) (World.ownsRow_nil _ _ _ _)
  subst h1
  obtain ⟨hmem, hlenE⟩ := hfine rfl
  simp only [ne_eq, not_true_eq_false, if_false] at HR
  go_enter Try.func31, Try.ntmps31
  go_wp2_with (first | (go_at_call 69; refine Calls.mono (HC.out _ (hu.bel ?_)) ?_; (focus (repeat (first | exact Bel.refl _ | apply Bel.ext | apply Bel.alloc | apply Bel.drew | refine Bel.set ?_ (by first | (simp; done) | (simp [go_sem]; done) | omega) _))); rintro ee ww ⟨v0, g0, rfl, rfl, hown⟩))
  have hwA : Bel w (ext w g0) := by (repeat (first | exact Bel.refl _ | apply Bel.ext | apply Bel.alloc | apply Bel.drew | refine Bel.set ?_ (by first | (simp; done) | (simp [go_sem]; done) | omega) _))
  have hrd := rd_of_row hown
  clear hown
  generalize ext w g0 = A at *
  obtain ⟨a1, m, c1, heq, hsE⟩ := hrd.sl
  have hcapE := hsE.le; have hmaxE := hsE.cap
  unfold maxLen at hmaxE
  have HLE := Lib.hid hsE.len
  have hm100 : m ≤ 100 := by rw [HLE.out]; exact hlenE
  subst heq
  go_wp2
  go_loopw [8, 9] (fun o i wr => ∃ c : Nat, c ≤ m ∧ (c = 0 ∨ c + 1 ≤ m) ∧ i = .int .i64 ((c : Int) + 1) ∧ Bel A wr ∧ Hid (wr.ownsRow A.heap.size 57 2 o c (cel2.row (midL es c)))) (fun _ i _ => m + 1 - (intOf i).toNat)
  case atStart => exact ⟨0, Nat.zero_le _, .inl rfl, by go_num, by (repeat (first | exact Bel.refl _ | apply Bel.ext | apply Bel.alloc | apply Bel.drew | refine Bel.set ?_ (by first | (simp; done) | (simp [go_sem]; done) | omega) _)), Lib.hid (by refine own_empty _ _ _ _ ?_; exact bel_size (by (repeat (first | exact Bel.refl _ | apply Bel.ext | apply Bel.alloc | apply Bel.drew | refine Bel.set ?_ (by first | (simp; done) | (simp [go_sem]; done) | omega) _))))⟩
  case round =>
    obtain ⟨c, hc1, hc2, rfl, hbel, hown⟩ := hrel
    obtain ⟨g, rfl⟩ := ext_ex hbel
    by_cases hlt : c + 1 < m
    · have hltz : (c : Int) + 1 < m := by omega
      have z1 : (0 : Int) ≤ (c : Int) := by omega
      have z2 : (c : Int) < m := by omega
      have z3 : (0 : Int) ≤ (c : Int) + 1 := by omega
      obtain ⟨be, offe, rfl, hbe⟩ := hsE.base hlt
      obtain ⟨p1, i1, he1, ha0, ha1⟩ := hsE.at2 (k := c) (by omega)
      obtain ⟨p2, i2, he2, hb0, hb1⟩ := hsE.at2 hlt
      obtain ⟨b1, b2, b3, b4⟩ := hmem _ (List.mem_of_getElem? he1.out)
      obtain ⟨b5, b6, b7, b8⟩ := hmem _ (List.mem_of_getElem? he2.out)
      simp only at b1 b2 b3 b4 b5 b6 b7 b8
      obtain ⟨m1, m2⟩ := mul_in2 b1 b2 (show 0 ≤ i2 by omega) b8
      obtain ⟨m3, m4⟩ := mul_in2 b5 b6 (show 0 ≤ i1 by omega) b4
      obtain ⟨m5, m6⟩ := mul_in2 (show 0 ≤ 2 * i1 by omega) (show 2 * i1 ≤ 44000 by omega) (show 0 ≤ i2 by omega) b8
      have m7 := Int.mul_le_mul (show (2 : Int) ≤ 2 * i1 by omega) b7 (by omega) (by omega)
      have HU := Lib.hid (midL_step he1.out he2.out)
      have k1 : IntKind.i64.wrap ((c : Int) + 1 - 1) = (c : Int) := by rw [show (c : Int) + 1 - 1 = c from by omega]; exact IntWalk.i64_in _ (by omega)
      have k1' : IntKind.i64.wrap (c : Int) = (c : Int) := IntWalk.i64_in _ (by omega)
      have k2 : ((c : Int) + 1).toNat = c + 1 := by omega
      go_wp2_with fail
      go_region_held3 (fun q => q.cell? ⟨be, offe + c * 2, none⟩ = some (.int .i64 p1) ∧ q.cell? ⟨be, offe + c * 2 + 1, none⟩ = some (.int .i64 i1) ∧ q.cell? ⟨be, offe + (c + 1) * 2, none⟩ = some (.int .i64 p2) ∧ q.cell? ⟨be, offe + (c + 1) * 2 + 1, none⟩ = some (.int .i64 i2)) (simp [go_sem, *]) (fail)
      all_goals clear k1 k1'
      all_goals go_wp2_with (first | (at_builtin; refine wpList_append_new rfl (.tmp 37) (.tmp 56) 44 57 2 16 rfl appFraction2 (by decide) A _ _ _ 1 [.int .i64 (fracN (p1 * i2 + p2 * i1) (2 * i1 * i2)), .int .i64 (fracD (p1 * i2 + p2 * i1) (2 * i1 * i2))] rfl (by first | with_reducible rfl | (simp [go_sem]; done)) rfl (by intro u hu; simp at hu; first | (subst hu; rfl) | (rcases hu with rfl | rfl <;> rfl) | (rcases hu with rfl | rfl | rfl <;> rfl)) (own_bel hown.out ?_) ?_ (by omega) (by omega) ?_; (focus (repeat (first | exact Bel.refl _ | apply Bel.ext | apply Bel.alloc | apply Bel.drew))); (focus (repeat (first | exact Bel.refl _ | apply Bel.ext | apply Bel.alloc | apply Bel.drew))); intro v2 g2 hown2 hgr2) | (go_at_call 70; refine (lowest_c _ _ (by omega) (by omega) (by omega) (by omega) _).mono ?_; rintro ee ww ⟨rfl, _, rfl⟩))
      all_goals
        go_roundw
        case rel =>
          refine ⟨c + 1, by omega, .inr (by omega), by go_num, by (repeat (first | exact Bel.refl _ | apply Bel.ext | apply Bel.alloc | apply Bel.drew | refine Bel.set ?_ (by first | (simp; done) | (simp [go_sem]; done) | omega) _)), Lib.hid ?_⟩
          rw [HU.out, Cel.row_append, Cel.row_one]; exact hown2
        case measure => simp [intOf]; omega
    · have hltz : ¬ (c : Int) + 1 < m := by omega
      have hce : es.length - 1 = c := by rw [← HLE.out]; omega
      rw [hce, midL_len] at HR
      go_wp2
      rw [← HR.out]
      refine RetRow.mk' rfl ?_ (own_mono hown.out hwA.size)
      exact Below.trans hwA (Below.mono (by (repeat (first | exact Bel.refl _ | apply Bel.ext | apply Bel.alloc | apply Bel.drew | refine Bel.set ?_ (by first | (simp; done) | (simp [go_sem]; done) | omega) _)) : Bel A _) hwA.size)
set_option maxRecDepth 100000 in
set_option maxHeartbeats 8000000 in
theorem sChordMiddles_c (u : Value) (xs : List (Int × Int)) (L : Int) (w : World) (hu : Rd cel2 w u xs) :
    Calls Try.prog 30 #[u, .int .i64 L] w (RetRow 57 2 (fun v => .tuple #[v, .int .i64 (midI xs L).2]) (midI xs L).1.length (cel2.row (midI xs L).1) w) := by
  generalize hR : RetRow _ _ _ _ _ w = R
  have HR := Lib.hid hR
  clear hR
  have HS := Lib.hid (fun w hu => l12Level_c u xs L w hu)
  have hfine := crossI_fine xs L
  unfold midI crossI at HR
  unfold levelI at HS
  rcases h1 : curveB xs with _ | _ <;> rcases h2 : magB L with _ | _ <;> simp only [h1, h2, Bool.not_true, Bool.not_false, if_true, if_false, Bool.false_eq_true] at HR HS
  case false.false | false.true | true.false =>
    clear h1 h2 hfine
    simp only [ne_eq, Int.reduceEq, not_false_eq_true, if_true] at HR
    go_enter Try.func30, Try.ntmps30
    go_wp2_with (first | (go_at_call 66; refine Calls.mono (HS.out _ (hu.bel ?_)) ?_; (focus (repeat (first | exact Bel.refl _ | apply Bel.ext | apply Bel.alloc | apply Bel.drew))); rintro ee ww ⟨rfl, _, rfl⟩))
    rw [← HR.out]
    exact RetRow.mk' rfl (by (repeat (first | exact Bel.refl _ | apply Bel.ext | apply Bel.alloc | apply Bel.drew | refine Bel.set ?_ (by first | (simp; done) | (simp [go_sem]; done) | omega) _)) : Bel _ _) (World.ownsRow_nil _ _ _ _)
  have HC := Lib.hid (fun w hu => l12Cross_c u xs L h1 h2 w hu)
  have hext : crossI xs L = (crossL L xs (xs.length - 1), 0) := by unfold crossI; rw [h1, h2]; simp
  rw [hext] at hfine
  clear h1 h2 hext
  generalize crossL L xs (xs.length - 1) = es at *
  obtain ⟨hmem, hlenE⟩ := hfine rfl
  simp only [ne_eq, not_true_eq_false, if_false] at HR
  go_enter Try.func30, Try.ntmps30
  go_wp2_with (first | (go_at_call 66; refine Calls.mono (HS.out _ (hu.bel ?_)) ?_; (focus (repeat (first | exact Bel.refl _ | apply Bel.ext | apply Bel.alloc | apply Bel.drew | refine Bel.set ?_ (by first | (simp; done) | (simp [go_sem]; done) | omega) _))); rintro ee ww ⟨rfl, g9, rfl⟩) | (go_at_call 67; refine Calls.mono (HC.out _ (hu.bel ?_)) ?_; (focus (repeat (first | exact Bel.refl _ | apply Bel.ext | apply Bel.alloc | apply Bel.drew | refine Bel.set ?_ (by first | (simp; done) | (simp [go_sem]; done) | omega) _))); rintro ee ww ⟨v0, g0, rfl, rfl, hown⟩))
  have hwA : Bel w (ext (ext w g9) g0) := by (repeat (first | exact Bel.refl _ | apply Bel.ext | apply Bel.alloc | apply Bel.drew | refine Bel.set ?_ (by first | (simp; done) | (simp [go_sem]; done) | omega) _))
  have hrd := rd_of_row hown
  clear hown
  generalize ext (ext w g9) g0 = A at *
  obtain ⟨a1, m, c1, heq, hsE⟩ := hrd.sl
  have hcapE := hsE.le; have hmaxE := hsE.cap
  unfold maxLen at hmaxE
  have HLE := Lib.hid hsE.len
  have hm100 : m ≤ 100 := by rw [HLE.out]; exact hlenE
  subst heq
  go_wp2
  go_loopw [8, 9] (fun o i wr => ∃ c : Nat, c ≤ m ∧ (c = 0 ∨ c + 1 ≤ m) ∧ i = .int .i64 ((c : Int)) ∧ Bel A wr ∧ Hid (wr.ownsRow A.heap.size 57 2 o c (cel2.row (midL es c)))) (fun _ i _ => m + 1 - (intOf i).toNat)
  case atStart => exact ⟨0, Nat.zero_le _, .inl rfl, rfl, by (repeat (first | exact Bel.refl _ | apply Bel.ext | apply Bel.alloc | apply Bel.drew | refine Bel.set ?_ (by first | (simp; done) | (simp [go_sem]; done) | omega) _)), Lib.hid (by refine own_empty _ _ _ _ ?_; exact bel_size (by (repeat (first | exact Bel.refl _ | apply Bel.ext | apply Bel.alloc | apply Bel.drew | refine Bel.set ?_ (by first | (simp; done) | (simp [go_sem]; done) | omega) _))))⟩
  case round =>
    obtain ⟨c, hc1, hc2, rfl, hbel, hown⟩ := hrel
    obtain ⟨g, rfl⟩ := ext_ex hbel
    by_cases hlt : c + 1 < m
    · have hltz : (c : Int) + 1 < m := by omega
      have z1 : (0 : Int) ≤ (c : Int) := by omega
      have z2 : (c : Int) < m := by omega
      have z3 : (0 : Int) ≤ (c : Int) + 1 := by omega
      obtain ⟨be, offe, rfl, hbe⟩ := hsE.base hlt
      obtain ⟨p1, i1, he1, ha0, ha1⟩ := hsE.at2 (k := c) (by omega)
      obtain ⟨p2, i2, he2, hb0, hb1⟩ := hsE.at2 hlt
      obtain ⟨b1, b2, b3, b4⟩ := hmem _ (List.mem_of_getElem? he1.out)
      obtain ⟨b5, b6, b7, b8⟩ := hmem _ (List.mem_of_getElem? he2.out)
      simp only at b1 b2 b3 b4 b5 b6 b7 b8
      obtain ⟨m1, m2⟩ := mul_in2 b1 b2 (show 0 ≤ i2 by omega) b8
      obtain ⟨m3, m4⟩ := mul_in2 b5 b6 (show 0 ≤ i1 by omega) b4
      obtain ⟨m5, m6⟩ := mul_in2 (show 0 ≤ 2 * i1 by omega) (show 2 * i1 ≤ 44000 by omega) (show 0 ≤ i2 by omega) b8
      have m7 := Int.mul_le_mul (show (2 : Int) ≤ 2 * i1 by omega) b7 (by omega) (by omega)
      have HU := Lib.hid (midL_step he1.out he2.out)
      have k2 : ((c : Int) + 1).toNat = c + 1 := by omega
      go_wp2_with (first | (at_builtin; refine wpList_append_new rfl (.tmp 38) (.tmp 57) 44 57 2 16 rfl appFraction2 (by decide) A _ _ _ 1 [.int .i64 (fracN (p1 * i2 + p2 * i1) (2 * i1 * i2)), .int .i64 (fracD (p1 * i2 + p2 * i1) (2 * i1 * i2))] rfl (by first | with_reducible rfl | (simp [go_sem]; done)) rfl (by intro u hu; simp at hu; first | (subst hu; rfl) | (rcases hu with rfl | rfl <;> rfl) | (rcases hu with rfl | rfl | rfl <;> rfl)) (own_bel hown.out ?_) ?_ (by omega) (by omega) ?_; (focus (repeat (first | exact Bel.refl _ | apply Bel.ext | apply Bel.alloc | apply Bel.drew))); (focus (repeat (first | exact Bel.refl _ | apply Bel.ext | apply Bel.alloc | apply Bel.drew))); intro v2 g2 hown2 hgr2) | (go_at_call 68; refine (l02Make_c _ _ (by omega) (by omega) (by omega) (by omega) _).mono ?_; rintro ee ww ⟨rfl, _, rfl⟩))
      all_goals
        go_roundw
        case rel =>
          refine ⟨c + 1, by omega, .inr (by omega), by go_num, by (repeat (first | exact Bel.refl _ | apply Bel.ext | apply Bel.alloc | apply Bel.drew | refine Bel.set ?_ (by first | (simp; done) | (simp [go_sem]; done) | omega) _)), Lib.hid ?_⟩
          rw [HU.out, Cel.row_append, Cel.row_one]; exact hown2
        case measure => simp [intOf]; omega
    · have hltz : ¬ (c : Int) + 1 < m := by omega
      have hce : es.length - 1 = c := by rw [← HLE.out]; omega
      rw [hce, midL_len] at HR
      go_wp2
      rw [← HR.out]
      refine RetRow.mk' rfl ?_ (own_mono hown.out hwA.size)
      exact Below.trans hwA (Below.mono (by (repeat (first | exact Bel.refl _ | apply Bel.ext | apply Bel.alloc | apply Bel.drew | refine Bel.set ?_ (by first | (simp; done) | (simp [go_sem]; done) | omega) _)) : Bel A _) hwA.size)
end Go.Proofs.Ytknlkljflibjbaa
