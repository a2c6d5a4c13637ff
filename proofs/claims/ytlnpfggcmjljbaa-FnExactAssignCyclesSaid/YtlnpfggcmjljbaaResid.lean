/- Residuals of minima: what both sides return. -/
import Derived.Test.YtlnpfggcmjljbaaShift
import Derived.Test.YtlnpfggcmjljbaaCounts
namespace Go.Proofs.Ytlnpfggcmjljbaa
open Go.RowKit

def residL (e p : Int) (xs : List (Int × Int)) : List Int := xs.map fun x => x.2 - e - x.1 * p
def residI (e p : Int) (xs : List (Int × Int)) : List Int × Int := if !minimaB xs || !ephB e p then ([], 1) else (residL e p xs, 0)
theorem residI_len (e p : Int) (xs : List (Int × Int)) : (residI e p xs).1.length ≤ xs.length := by
  unfold residI; split <;> simp [residL]
theorem mulp_bd {k p : Int} (h1 : -10000 ≤ k) (h2 : k ≤ 10000) (h3 : 1 ≤ p) (h4 : p ≤ 1000000) : -10000000000 ≤ k * p ∧ k * p ≤ 10000000000 := by
  have h5 := Int.mul_le_mul_of_nonneg_right h2 (show 0 ≤ p by omega)
  have h6 := Int.mul_le_mul_of_nonneg_right h1 (show 0 ≤ p by omega)
  omega
set_option maxHeartbeats 1000000 in
theorem residual_c (e p x y : Int) (e1 : 0 ≤ e) (e2 : e ≤ 10000000) (p1 : 1 ≤ p) (p2 : p ≤ 1000000) (x1 : -10000 ≤ x) (x2 : x ≤ 10000) (y1 : 0 ≤ y) (y2 : y ≤ 10000000) (w : World) :
    Calls Try.prog 65 #[.agg #[.int .i64 e, .int .i64 p], .agg #[.int .i64 x, .int .i64 y]] w (Ret (.int .i64 (y - e - x * p)) w) := by
  refine hide_ret fun v H => ?_
  obtain ⟨q1, q2⟩ := mulp_bd x1 x2 p1 p2
  go_enter Try.func65, Try.ntmps65
  go_wp2
  go_ret
  refine Ret.mk ?_ (?_ : Bel _ _)
  · exact H.out
  · (repeat (first | exact Bel.refl _ | apply Bel.ext | apply Bel.alloc | apply Bel.drew | refine Bel.set ?_ (by first | (simp; done) | (simp [go_sem]; done) | omega) _))
set_option maxHeartbeats 1000000 in
theorem l13Residual_c (x y e p : Int) (e1 : 0 ≤ e) (e2 : e ≤ 10000000) (p1 : 1 ≤ p) (p2 : p ≤ 1000000) (x1 : -10000 ≤ x) (x2 : x ≤ 10000) (y1 : 0 ≤ y) (y2 : y ≤ 10000000) (w : World) :
    Calls Try.prog 63 #[.agg #[.int .i64 x, .int .i64 y], .agg #[.int .i64 e, .int .i64 p]] w (Ret (.int .i64 (y - e - x * p)) w) := by
  refine hide_ret fun v H => ?_
  obtain ⟨q1, q2⟩ := mulp_bd x1 x2 p1 p2
  go_enter Try.func63, Try.ntmps63
  go_wp2
  go_ret
  refine Ret.mk ?_ (?_ : Bel _ _)
  · exact H.out
  · (repeat (first | exact Bel.refl _ | apply Bel.ext | apply Bel.alloc | apply Bel.drew | refine Bel.set ?_ (by first | (simp; done) | (simp [go_sem]; done) | omega) _))
set_option maxHeartbeats 4000000 in
theorem ResidualsOf_c (u : Value) (xs : List (Int × Int)) (e p : Int) (w : World) (hu : Rd cel2 w u xs) :
    Calls Try.prog 37 #[u, .agg #[.int .i64 e, .int .i64 p]] w (RetRow 2 1 (fun v => .tuple #[v, .int .i64 (residI e p xs).2]) (residI e p xs).1.length (celI.row (residI e p xs).1) w) := by
  generalize hR : RetRow _ _ _ _ _ w = R
  have HR := Lib.hid hR
  clear hR
  have hu' := hu
  obtain ⟨a, n, c, rfl, hs⟩ := hu'.sl
  have hcap := hs.le; have hmax := hs.cap
  unfold maxLen at hmax
  have HL := Lib.hid hs.len
  rcases h1 : minimaB xs with _ | _ <;> rcases h2 : ephB e p with _ | _ <;> simp only [residI, h1, h2, Bool.not_true, Bool.not_false, Bool.true_or, Bool.or_true, Bool.false_or, Bool.or_false, Bool.true_and, Bool.and_true, Bool.false_and, Bool.and_false, if_true, if_false, Bool.false_eq_true] at HR
  case true.true =>
    obtain ⟨e1, e2, p1, p2⟩ := ephB_iff.1 h2
    have hget : ∀ (k : Nat) (x y : Int), xs[k]? = some (x, y) → -10000 ≤ x ∧ x ≤ 10000 ∧ 0 ≤ y ∧ y ≤ 10000000 := fun k x y hx => minimaB_get h1 hx
    have hlen := minimaB_len h1
    rw [← HL.out] at hlen
    go_enter Try.func37, Try.ntmps37
    go_wp2_with (first | (go_at_call 17; refine Calls.mono (ValidMinima_c _ xs _ (hu.bel ?_)) ?_; (focus (repeat (first | exact Bel.refl _ | apply Bel.ext | apply Bel.alloc | apply Bel.drew))); rintro ee ww ⟨rfl, _, rfl⟩) | (go_at_call 64; refine (ValidEphemeris_c _ _ _).mono ?_; rintro ee ww ⟨rfl, _, rfl⟩))
    have hE0 : (w.alloc (Obj.cells #[.int .i64 e, .int .i64 p] 56)).cell? ⟨w.heap.size, 0, none⟩ = some (.int .i64 e) := by simp [go_sem]
    have hE1 : (w.alloc (Obj.cells #[.int .i64 e, .int .i64 p] 56)).cell? ⟨w.heap.size, 1, none⟩ = some (.int .i64 p) := by simp [go_sem]
    have hEz : w.heap.size < (w.alloc (Obj.cells #[.int .i64 e, .int .i64 p] 56)).heap.size := by simp
    have hwA : Bel w (w.alloc (Obj.cells #[.int .i64 e, .int .i64 p] 56)) := by (repeat (first | exact Bel.refl _ | apply Bel.ext | apply Bel.alloc | apply Bel.drew | refine Bel.set ?_ (by first | (simp; done) | (simp [go_sem]; done) | omega) _))
    have hsA := hs.bel hwA
    generalize w.alloc (Obj.cells #[.int .i64 e, .int .i64 p] 56) = A at *
    go_loopw [6, 20] (fun o i wr => ∃ k : Nat, k ≤ n ∧ i = .int .i64 k ∧ Bel A wr ∧ Hid (wr.ownsRow A.heap.size 2 1 o k (celI.row (residL e p (xs.take k))))) (fun _ i _ => n - (intOf i).toNat)
    case atStart => exact ⟨0, by omega, by go_num, by (repeat (first | exact Bel.refl _ | apply Bel.ext | apply Bel.alloc | apply Bel.drew | refine Bel.set ?_ (by first | (simp; done) | (simp [go_sem]; done) | omega) _)), Lib.hid (by refine own_empty _ _ _ _ ?_; exact (by (repeat (first | exact Bel.refl _ | apply Bel.ext | apply Bel.alloc | apply Bel.drew | refine Bel.set ?_ (by first | (simp; done) | (simp [go_sem]; done) | omega) _)) : Bel A _).size)⟩
    case round =>
      obtain ⟨k, hk, rfl, hbel, hown⟩ := hrel
      obtain ⟨g, rfl⟩ := ext_ex hbel
      by_cases hlt : k < n
      · obtain ⟨b, off, rfl, hb⟩ := hsA.base hlt
        obtain ⟨x, y, hx, hc0, hc1⟩ := hsA.at2 hlt
        obtain ⟨x1, x2, y1, y2⟩ := hget k x y hx.out
        go_wp2_with (first | (at_builtin; refine wpList_append_new rfl (.tmp 24) (.tmp 28) 32 2 1 8 rfl appI (by decide) A _ _ _ 1 [.int .i64 (y - e - x * p)] rfl (by first | with_reducible rfl | (simp [go_sem]; done)) rfl (by intro u hu; simp at hu; first | (subst hu; rfl) | (rcases hu with rfl | rfl <;> rfl) | (rcases hu with rfl | rfl | rfl <;> rfl)) (own_bel hown.out ?_) ?_ (by omega) (by omega) ?_; (focus (repeat (first | exact Bel.refl _ | apply Bel.ext | apply Bel.alloc | apply Bel.drew))); (focus (repeat (first | exact Bel.refl _ | apply Bel.ext | apply Bel.alloc | apply Bel.drew))); intro v2 g2 hown2 hgr2) | (go_at_call 65; refine Calls.mono (residual_c e p x y e1 e2 p1 p2 x1 x2 y1 y2 _) ?_; rintro ee ww ⟨rfl, _, rfl⟩))
        go_roundw
        case rel =>
          refine ⟨k + 1, by omega, by go_num, by (repeat (first | exact Bel.refl _ | apply Bel.ext | apply Bel.alloc | apply Bel.drew | refine Bel.set ?_ (by first | (simp; done) | (simp [go_sem]; done) | omega) _)), Lib.hid ?_⟩
          unfold residL
          rw [map_take_succ _ hx.out, Cel.row_append, Cel.row_one]; exact hown2
        case measure => simp [intOf]; omega
      · have hk' : k = n := by omega
        subst hk'
        have hO := hown.out
        rw [List.take_of_length_le (by rw [HL.out]; exact Nat.le_refl _), show k = (residL e p xs).length from by rw [HL.out]; simp [residL]] at hO
        have HO := Lib.hid (own_mono hO hwA.size)
        clear hO hown
        go_wp2
        rw [← HR.out]
        refine RetRow.mk' rfl ?_ HO.out
        exact Below.trans hwA (Below.mono ((Bel.refl A).ext _) hwA.size)
  all_goals
    go_enter Try.func37, Try.ntmps37
    go_wp2_with (first | (go_at_call 17; refine Calls.mono (ValidMinima_c _ xs _ (hu.bel ?_)) ?_; (focus (repeat (first | exact Bel.refl _ | apply Bel.ext | apply Bel.alloc | apply Bel.drew))); rintro ee ww ⟨rfl, _, rfl⟩) | (go_at_call 64; refine (ValidEphemeris_c _ _ _).mono ?_; rintro ee ww ⟨rfl, _, rfl⟩))
    rw [← HR.out]
    exact RetRow.mk' rfl (by (repeat (first | exact Bel.refl _ | apply Bel.ext | apply Bel.alloc | apply Bel.drew | refine Bel.set ?_ (by first | (simp; done) | (simp [go_sem]; done) | omega) _)) : Bel _ _) (World.ownsRow_nil _ _ _ _)
set_option maxHeartbeats 4000000 in
theorem sResidualsOf_c (u : Value) (xs : List (Int × Int)) (e p : Int) (w : World) (hu : Rd cel2 w u xs) :
    Calls Try.prog 35 #[u, .agg #[.int .i64 e, .int .i64 p]] w (RetRow 2 1 (fun v => .tuple #[v, .int .i64 (residI e p xs).2]) (residI e p xs).1.length (celI.row (residI e p xs).1) w) := by
  generalize hR : RetRow _ _ _ _ _ w = R
  have HR := Lib.hid hR
  clear hR
  have hu' := hu
  obtain ⟨a, n, c, rfl, hs⟩ := hu'.sl
  have hcap := hs.le; have hmax := hs.cap
  unfold maxLen at hmax
  have HL := Lib.hid hs.len
  rcases h1 : minimaB xs with _ | _ <;> rcases h2 : ephB e p with _ | _ <;> simp only [residI, h1, h2, Bool.not_true, Bool.not_false, Bool.true_or, Bool.or_true, Bool.false_or, Bool.or_false, Bool.true_and, Bool.and_true, Bool.false_and, Bool.and_false, if_true, if_false, Bool.false_eq_true] at HR
  case true.true =>
    obtain ⟨e1, e2, p1, p2⟩ := ephB_iff.1 h2
    have hget : ∀ (k : Nat) (x y : Int), xs[k]? = some (x, y) → -10000 ≤ x ∧ x ≤ 10000 ∧ 0 ≤ y ∧ y ≤ 10000000 := fun k x y hx => minimaB_get h1 hx
    have hlen := minimaB_len h1
    rw [← HL.out] at hlen
    go_enter Try.func35, Try.ntmps35
    go_wp2_with (first | (go_at_call 50; refine Calls.mono (l13Ok_c _ xs _ (hu.bel ?_)) ?_; (focus (repeat (first | exact Bel.refl _ | apply Bel.ext | apply Bel.alloc | apply Bel.drew))); rintro ee ww ⟨rfl, _, rfl⟩) | (go_at_call 62; refine (l09Ok_c _ _ _).mono ?_; rintro ee ww ⟨rfl, _, rfl⟩))
    have hE0 : (w.alloc (Obj.cells #[.int .i64 e, .int .i64 p] 56)).cell? ⟨w.heap.size, 0, none⟩ = some (.int .i64 e) := by simp [go_sem]
    have hE1 : (w.alloc (Obj.cells #[.int .i64 e, .int .i64 p] 56)).cell? ⟨w.heap.size, 1, none⟩ = some (.int .i64 p) := by simp [go_sem]
    have hEz : w.heap.size < (w.alloc (Obj.cells #[.int .i64 e, .int .i64 p] 56)).heap.size := by simp
    have hwA : Bel w (w.alloc (Obj.cells #[.int .i64 e, .int .i64 p] 56)) := by (repeat (first | exact Bel.refl _ | apply Bel.ext | apply Bel.alloc | apply Bel.drew | refine Bel.set ?_ (by first | (simp; done) | (simp [go_sem]; done) | omega) _))
    have hsA := hs.bel hwA
    generalize w.alloc (Obj.cells #[.int .i64 e, .int .i64 p] 56) = A at *
    go_loopw [6, 7] (fun o i wr => ∃ k : Nat, k ≤ n ∧ i = .int .i64 k ∧ Bel A wr ∧ Hid (wr.ownsRow A.heap.size 2 1 o k (celI.row (residL e p (xs.take k))))) (fun _ i _ => n - (intOf i).toNat)
    case atStart => exact ⟨0, by omega, by go_num, by (repeat (first | exact Bel.refl _ | apply Bel.ext | apply Bel.alloc | apply Bel.drew | refine Bel.set ?_ (by first | (simp; done) | (simp [go_sem]; done) | omega) _)), Lib.hid (by refine own_empty _ _ _ _ ?_; exact (by (repeat (first | exact Bel.refl _ | apply Bel.ext | apply Bel.alloc | apply Bel.drew | refine Bel.set ?_ (by first | (simp; done) | (simp [go_sem]; done) | omega) _)) : Bel A _).size)⟩
    case round =>
      obtain ⟨k, hk, rfl, hbel, hown⟩ := hrel
      obtain ⟨g, rfl⟩ := ext_ex hbel
      by_cases hlt : k < n
      · obtain ⟨b, off, rfl, hb⟩ := hsA.base hlt
        obtain ⟨x, y, hx, hc0, hc1⟩ := hsA.at2 hlt
        obtain ⟨x1, x2, y1, y2⟩ := hget k x y hx.out
        go_wp2_with fail
        go_region_held3 (fun q => q.cell? ⟨w.heap.size, 0, none⟩ = some (.int .i64 e) ∧ q.cell? ⟨w.heap.size, 1, none⟩ = some (.int .i64 p) ∧ q.cell? ⟨b, off + k * 2, none⟩ = some (.int .i64 x) ∧ q.cell? ⟨b, off + k * 2 + 1, none⟩ = some (.int .i64 y)) (simp [go_sem, *]) (first | (refine step_append_new (by rfl) (.tmp 23) (.tmp 30) 32 2 1 8 (by rfl) appI (by decide) A _ _ _ 1 [.int .i64 (y - e - x * p)] (by rfl) _ (by rfl) (by rfl) (by intro u hu; simp at hu; first | (subst hu; rfl) | (rcases hu with rfl | rfl <;> rfl) | (rcases hu with rfl | rfl | rfl <;> rfl)) (by intro j u hu; rcases j with _ | _ | _ | j <;> simp at hu <;> subst hu <;> simp [go_sem]) (own_bel hown.out ?_) ?_ (by omega) (by omega) ?_; (focus (repeat (first | exact Bel.refl _ | apply Bel.ext | apply Bel.alloc | apply Bel.drew))); (focus (repeat (first | exact Bel.refl _ | apply Bel.ext | apply Bel.alloc | apply Bel.drew))); intro v2 g2 hown2 hgr2) | (go_at_call 63; refine Calls.mono (l13Residual_c x y e p e1 e2 p1 p2 x1 x2 y1 y2 _) ?_; rintro ee ww ⟨rfl, _, rfl⟩))
        go_wp2
        go_roundw
        case rel =>
          refine ⟨k + 1, by omega, by go_num, by (repeat (first | exact Bel.refl _ | apply Bel.ext | apply Bel.alloc | apply Bel.drew | refine Bel.set ?_ (by first | (simp; done) | (simp [go_sem]; done) | omega) _)), Lib.hid ?_⟩
          unfold residL
          rw [map_take_succ _ hx.out, Cel.row_append, Cel.row_one]; exact hown2
        case measure => simp [intOf]; omega
      · have hk' : k = n := by omega
        subst hk'
        have hO := hown.out
        rw [List.take_of_length_le (by rw [HL.out]; exact Nat.le_refl _), show k = (residL e p xs).length from by rw [HL.out]; simp [residL]] at hO
        have HO := Lib.hid (own_mono hO hwA.size)
        clear hO hown
        go_wp2
        rw [← HR.out]
        refine RetRow.mk' rfl ?_ HO.out
        exact Below.trans hwA (Below.mono ((Bel.refl A).ext _) hwA.size)
  all_goals
    go_enter Try.func35, Try.ntmps35
    go_wp2_with (first | (go_at_call 50; refine Calls.mono (l13Ok_c _ xs _ (hu.bel ?_)) ?_; (focus (repeat (first | exact Bel.refl _ | apply Bel.ext | apply Bel.alloc | apply Bel.drew))); rintro ee ww ⟨rfl, _, rfl⟩) | (go_at_call 62; refine (l09Ok_c _ _ _).mono ?_; rintro ee ww ⟨rfl, _, rfl⟩))
    rw [← HR.out]
    exact RetRow.mk' rfl (by (repeat (first | exact Bel.refl _ | apply Bel.ext | apply Bel.alloc | apply Bel.drew | refine Bel.set ?_ (by first | (simp; done) | (simp [go_sem]; done) | omega) _)) : Bel _ _) (World.ownsRow_nil _ _ _ _)
end Go.Proofs.Ytlnpfggcmjljbaa
