/- Shifted cycles, residuals, their squares, the worst one: what both sides return. -/
import Derived.Test.YtlnpfggcmjljbaaMinima
import Derived.Test.YtlnpfggcmjljbaaRowInt
namespace Go.Proofs.Ytlnpfggcmjljbaa
open Go.RowKit

def shiftL (d : Int) (xs : List (Int × Int)) : List (Int × Int) := xs.map fun x => (x.1 + d, x.2)
def shiftI (d : Int) (xs : List (Int × Int)) : List (Int × Int) × Int :=
  if !minimaB xs then ([], 1) else if !inB d (-10000) 10000 then ([], 2) else if !minimaB (shiftL d xs) then ([], 5) else (shiftL d xs, 0)
theorem shiftI_len (d : Int) (xs : List (Int × Int)) : (shiftI d xs).1.length ≤ xs.length := by
  unfold shiftI; split <;> (try split) <;> (try split) <;> simp [shiftL]
theorem map_take_succ {α β : Type} (f : α → β) {xs : List α} {k : Nat} {x : α} (h : xs[k]? = some x) : (xs.take (k + 1)).map f = (xs.take k).map f ++ [f x] := by
  rw [take_snoc_of h, List.map_append]; rfl

set_option maxHeartbeats 4000000 in
theorem ShiftCycles_c (u : Value) (xs : List (Int × Int)) (d : Int) (w : World) (hu : Rd cel2 w u xs) :
    Calls Try.prog 32 #[u, .int .i64 d] w (RetRow 41 2 (fun v => .tuple #[v, .int .i64 (shiftI d xs).2]) (shiftI d xs).1.length (cel2.row (shiftI d xs).1) w) := by
  generalize hR : RetRow _ _ _ _ _ w = R
  have HR := Lib.hid hR
  clear hR
  have hu' := hu
  obtain ⟨a, n, c, rfl, hs⟩ := hu'.sl
  have hcap := hs.le; have hmax := hs.cap
  unfold maxLen at hmax
  have HL := Lib.hid hs.len
  rcases h1 : minimaB xs with _ | _ <;> rcases h2 : inB d (-10000) 10000 with _ | _ <;> simp only [shiftI, h1, h2, Bool.not_true, Bool.not_false, Bool.true_or, Bool.or_true, Bool.false_or, Bool.or_false, Bool.true_and, Bool.and_true, Bool.false_and, Bool.and_false, if_true, if_false, Bool.false_eq_true] at HR
  case true.true =>
    have hd := inB_iff.1 h2
    have hget : ∀ (k : Nat) (x y : Int), xs[k]? = some (x, y) → -10000 ≤ x ∧ x ≤ 10000 := fun k x y hx => by have := minimaB_get h1 hx; omega
    have hlen := minimaB_len h1
    rw [← HL.out] at hlen
    go_enter Try.func32, Try.ntmps32
    go_wp2_with (first | (go_at_call 17; refine Calls.mono (ValidMinima_c _ xs _ (hu.bel ?_)) ?_; (focus (repeat (first | exact Bel.refl _ | apply Bel.ext | apply Bel.alloc | apply Bel.drew))); rintro ee ww ⟨rfl, _, rfl⟩) | (go_at_call 61; refine (in_c _ _ _ _).mono ?_; rintro ee ww ⟨rfl, rfl⟩))
    go_loopw [6, 20] (fun o i wr => ∃ k : Nat, k ≤ n ∧ i = .int .i64 k ∧ Bel w wr ∧ Hid (wr.ownsRow w.heap.size 41 2 o k (cel2.row (shiftL d (xs.take k))))) (fun _ i _ => n - (intOf i).toNat)
    case atStart => exact ⟨0, by omega, by go_num, by (repeat (first | exact Bel.refl _ | apply Bel.ext | apply Bel.alloc | apply Bel.drew | refine Bel.set ?_ (by first | (simp; done) | (simp [go_sem]; done) | omega) _)), Lib.hid (by refine own_empty _ _ _ _ ?_; exact (by (repeat (first | exact Bel.refl _ | apply Bel.ext | apply Bel.alloc | apply Bel.drew | refine Bel.set ?_ (by first | (simp; done) | (simp [go_sem]; done) | omega) _)) : Bel w _).size)⟩
    case round =>
      obtain ⟨k, hk, rfl, hbel, hown⟩ := hrel
      obtain ⟨g, rfl⟩ := ext_ex hbel
      by_cases hlt : k < n
      · obtain ⟨b, off, rfl, hb⟩ := hs.base hlt
        obtain ⟨x, y, hx, hc0, hc1⟩ := hs.at2 hlt
        obtain ⟨x1, x2⟩ := hget k x y hx.out
        go_wp2_with (first | (at_builtin; refine wpList_append_new rfl (.tmp 24) (.tmp 32) 25 41 2 16 rfl appMinimum (by decide) w _ _ _ 1 [.int .i64 (x + d), .int .i64 y] rfl (by first | with_reducible rfl | (simp [go_sem]; done)) rfl (by intro u hu; simp at hu; first | (subst hu; rfl) | (rcases hu with rfl | rfl <;> rfl) | (rcases hu with rfl | rfl | rfl <;> rfl)) (own_bel hown.out ?_) ?_ (by omega) (by omega) ?_; (focus (repeat (first | exact Bel.refl _ | apply Bel.ext | apply Bel.alloc | apply Bel.drew))); (focus (repeat (first | exact Bel.refl _ | apply Bel.ext | apply Bel.alloc | apply Bel.drew))); intro v2 g2 hown2 hgr2))
        go_roundw
        case rel =>
          refine ⟨k + 1, by omega, by go_num, by (repeat (first | exact Bel.refl _ | apply Bel.ext | apply Bel.alloc | apply Bel.drew | refine Bel.set ?_ (by first | (simp; done) | (simp [go_sem]; done) | omega) _)), Lib.hid ?_⟩
          unfold shiftL
          rw [map_take_succ _ hx.out, Cel.row_append, Cel.row_one]; exact hown2
        case measure => simp [intOf]; omega
      · have hk' : k = n := by omega
        subst hk'
        have hO := hown.out
        rw [List.take_of_length_le (by rw [HL.out]; exact Nat.le_refl _), show k = (shiftL d xs).length from by rw [HL.out]; simp [shiftL]] at hO
        have HO := Lib.hid hO
        clear hO hown
        rcases h3 : minimaB (shiftL d xs) with _ | _ <;> simp only [h3, Bool.not_true, Bool.not_false, Bool.true_or, Bool.or_true, Bool.false_or, Bool.or_false, Bool.true_and, Bool.and_true, Bool.false_and, Bool.and_false, if_true, if_false, Bool.false_eq_true] at HR
        · go_wp2_with (first | (go_at_call 17; refine Calls.mono (ValidMinima_c _ (shiftL d xs) _ (rd_of_row (own_bel HO.out ?_))) ?_; (focus (repeat (first | exact Bel.refl _ | apply Bel.ext | apply Bel.alloc | apply Bel.drew))); rintro ee ww ⟨rfl, _, rfl⟩))
          rw [← HR.out]
          exact RetRow.mk' rfl (by (repeat (first | exact Bel.refl _ | apply Bel.ext | apply Bel.alloc | apply Bel.drew | refine Bel.set ?_ (by first | (simp; done) | (simp [go_sem]; done) | omega) _)) : Bel _ _) (World.ownsRow_nil _ _ _ _)
        · go_wp2_with (first | (go_at_call 17; refine Calls.mono (ValidMinima_c _ (shiftL d xs) _ (rd_of_row (own_bel HO.out ?_))) ?_; (focus (repeat (first | exact Bel.refl _ | apply Bel.ext | apply Bel.alloc | apply Bel.drew))); rintro ee ww ⟨rfl, _, rfl⟩))
          rw [← HR.out]
          refine RetRow.mk' rfl (by (repeat (first | exact Bel.refl _ | apply Bel.ext | apply Bel.alloc | apply Bel.drew | refine Bel.set ?_ (by first | (simp; done) | (simp [go_sem]; done) | omega) _)) : Bel _ _) ?_
          exact own_bel HO.out (by (repeat (first | exact Bel.refl _ | apply Bel.ext | apply Bel.alloc | apply Bel.drew | refine Bel.set ?_ (by first | (simp; done) | (simp [go_sem]; done) | omega) _)))
  all_goals
    go_enter Try.func32, Try.ntmps32
    go_wp2_with (first | (go_at_call 17; refine Calls.mono (ValidMinima_c _ xs _ (hu.bel ?_)) ?_; (focus (repeat (first | exact Bel.refl _ | apply Bel.ext | apply Bel.alloc | apply Bel.drew))); rintro ee ww ⟨rfl, _, rfl⟩) | (go_at_call 61; refine (in_c _ _ _ _).mono ?_; rintro ee ww ⟨rfl, rfl⟩))
    rw [← HR.out]
    exact RetRow.mk' rfl (by (repeat (first | exact Bel.refl _ | apply Bel.ext | apply Bel.alloc | apply Bel.drew | refine Bel.set ?_ (by first | (simp; done) | (simp [go_sem]; done) | omega) _)) : Bel _ _) (World.ownsRow_nil _ _ _ _)
set_option maxHeartbeats 4000000 in
theorem sShiftCycles_c (u : Value) (xs : List (Int × Int)) (d : Int) (w : World) (hu : Rd cel2 w u xs) :
    Calls Try.prog 31 #[u, .int .i64 d] w (RetRow 41 2 (fun v => .tuple #[v, .int .i64 (shiftI d xs).2]) (shiftI d xs).1.length (cel2.row (shiftI d xs).1) w) := by
  generalize hR : RetRow _ _ _ _ _ w = R
  have HR := Lib.hid hR
  clear hR
  have hu' := hu
  obtain ⟨a, n, c, rfl, hs⟩ := hu'.sl
  have hcap := hs.le; have hmax := hs.cap
  unfold maxLen at hmax
  have HL := Lib.hid hs.len
  rcases h1 : minimaB xs with _ | _ <;> rcases h2 : inB d (-10000) 10000 with _ | _ <;> simp only [shiftI, h1, h2, Bool.not_true, Bool.not_false, Bool.true_or, Bool.or_true, Bool.false_or, Bool.or_false, Bool.true_and, Bool.and_true, Bool.false_and, Bool.and_false, if_true, if_false, Bool.false_eq_true] at HR
  case true.true =>
    have hd := inB_iff.1 h2
    have hget : ∀ (k : Nat) (x y : Int), xs[k]? = some (x, y) → -10000 ≤ x ∧ x ≤ 10000 := fun k x y hx => by have := minimaB_get h1 hx; omega
    have hlen := minimaB_len h1
    rw [← HL.out] at hlen
    go_enter Try.func31, Try.ntmps31
    go_wp2_with (first | (go_at_call 50; refine Calls.mono (l13Ok_c _ xs _ (hu.bel ?_)) ?_; (focus (repeat (first | exact Bel.refl _ | apply Bel.ext | apply Bel.alloc | apply Bel.drew))); rintro ee ww ⟨rfl, _, rfl⟩) | (go_at_call 58; refine (l00In_c _ _ _ _).mono ?_; rintro ee ww ⟨rfl, rfl⟩))
    go_loopw [6, 7] (fun o i wr => ∃ k : Nat, k ≤ n ∧ i = .int .i64 k ∧ Bel w wr ∧ Hid (wr.ownsRow w.heap.size 41 2 o k (cel2.row (shiftL d (xs.take k))))) (fun _ i _ => n - (intOf i).toNat)
    case atStart => exact ⟨0, by omega, by go_num, by (repeat (first | exact Bel.refl _ | apply Bel.ext | apply Bel.alloc | apply Bel.drew | refine Bel.set ?_ (by first | (simp; done) | (simp [go_sem]; done) | omega) _)), Lib.hid (by refine own_empty _ _ _ _ ?_; exact (by (repeat (first | exact Bel.refl _ | apply Bel.ext | apply Bel.alloc | apply Bel.drew | refine Bel.set ?_ (by first | (simp; done) | (simp [go_sem]; done) | omega) _)) : Bel w _).size)⟩
    case round =>
      obtain ⟨k, hk, rfl, hbel, hown⟩ := hrel
      obtain ⟨g, rfl⟩ := ext_ex hbel
      by_cases hlt : k < n
      · obtain ⟨b, off, rfl, hb⟩ := hs.base hlt
        obtain ⟨x1, y1, hx, hc0, hc1⟩ := hs.at2 hlt
        obtain ⟨b1, b2⟩ := hget k x1 y1 hx.out
        have hw : IntKind.i64.wrap (x1 + d) = x1 + d := IntWalk.i64_in _ (by omega)
        go_wp2_with fail
        go_region_held3 (fun x => x.cell? ⟨b, off + k * 2, none⟩ = some (.int .i64 x1) ∧ x.cell? ⟨b, off + k * 2 + 1, none⟩ = some (.int .i64 y1)) (simp [go_sem, *]) (first | (refine step_append_new (by rfl) (.tmp 21) (.tmp 35) 25 41 2 16 (by rfl) appMinimum (by decide) w _ _ _ 1 [.int .i64 (x1 + d), .int .i64 y1] (by rfl) _ (by rfl) (by rfl) (by intro u hu; simp at hu; first | (subst hu; rfl) | (rcases hu with rfl | rfl <;> rfl) | (rcases hu with rfl | rfl | rfl <;> rfl)) (by intro j u hu; rcases j with _ | _ | _ | j <;> simp at hu <;> subst hu <;> simp [go_sem]) (own_bel hown.out ?_) ?_ (by omega) (by omega) ?_; (focus (repeat (first | exact Bel.refl _ | apply Bel.ext | apply Bel.alloc | apply Bel.drew))); (focus (repeat (first | exact Bel.refl _ | apply Bel.ext | apply Bel.alloc | apply Bel.drew))); intro v2 g2 hown2 hgr2))
        go_wp2
        go_roundw
        case rel =>
          refine ⟨k + 1, by omega, by go_num, by (repeat (first | exact Bel.refl _ | apply Bel.ext | apply Bel.alloc | apply Bel.drew | refine Bel.set ?_ (by first | (simp; done) | (simp [go_sem]; done) | omega) _)), Lib.hid ?_⟩
          unfold shiftL
          rw [map_take_succ _ hx.out, Cel.row_append, Cel.row_one]; exact hown2
        case measure => simp [intOf]; omega
      · have hk' : k = n := by omega
        subst hk'
        have hO := hown.out
        rw [List.take_of_length_le (by rw [HL.out]; exact Nat.le_refl _), show k = (shiftL d xs).length from by rw [HL.out]; simp [shiftL]] at hO
        have HO := Lib.hid hO
        clear hO hown
        rcases h3 : minimaB (shiftL d xs) with _ | _ <;> simp only [h3, Bool.not_true, Bool.not_false, Bool.true_or, Bool.or_true, Bool.false_or, Bool.or_false, Bool.true_and, Bool.and_true, Bool.false_and, Bool.and_false, if_true, if_false, Bool.false_eq_true] at HR
        · go_wp2_with (first | (go_at_call 50; refine Calls.mono (l13Ok_c _ (shiftL d xs) _ (rd_of_row (own_bel HO.out ?_))) ?_; (focus (repeat (first | exact Bel.refl _ | apply Bel.ext | apply Bel.alloc | apply Bel.drew))); rintro ee ww ⟨rfl, _, rfl⟩))
          rw [← HR.out]
          exact RetRow.mk' rfl (by (repeat (first | exact Bel.refl _ | apply Bel.ext | apply Bel.alloc | apply Bel.drew | refine Bel.set ?_ (by first | (simp; done) | (simp [go_sem]; done) | omega) _)) : Bel _ _) (World.ownsRow_nil _ _ _ _)
        · go_wp2_with (first | (go_at_call 50; refine Calls.mono (l13Ok_c _ (shiftL d xs) _ (rd_of_row (own_bel HO.out ?_))) ?_; (focus (repeat (first | exact Bel.refl _ | apply Bel.ext | apply Bel.alloc | apply Bel.drew))); rintro ee ww ⟨rfl, _, rfl⟩))
          rw [← HR.out]
          refine RetRow.mk' rfl (by (repeat (first | exact Bel.refl _ | apply Bel.ext | apply Bel.alloc | apply Bel.drew | refine Bel.set ?_ (by first | (simp; done) | (simp [go_sem]; done) | omega) _)) : Bel _ _) ?_
          exact own_bel HO.out (by (repeat (first | exact Bel.refl _ | apply Bel.ext | apply Bel.alloc | apply Bel.drew | refine Bel.set ?_ (by first | (simp; done) | (simp [go_sem]; done) | omega) _)))
  all_goals
    go_enter Try.func31, Try.ntmps31
    go_wp2_with (first | (go_at_call 50; refine Calls.mono (l13Ok_c _ xs _ (hu.bel ?_)) ?_; (focus (repeat (first | exact Bel.refl _ | apply Bel.ext | apply Bel.alloc | apply Bel.drew))); rintro ee ww ⟨rfl, _, rfl⟩) | (go_at_call 58; refine (l00In_c _ _ _ _).mono ?_; rintro ee ww ⟨rfl, rfl⟩))
    rw [← HR.out]
    exact RetRow.mk' rfl (by (repeat (first | exact Bel.refl _ | apply Bel.ext | apply Bel.alloc | apply Bel.drew | refine Bel.set ?_ (by first | (simp; done) | (simp [go_sem]; done) | omega) _)) : Bel _ _) (World.ownsRow_nil _ _ _ _)
end Go.Proofs.Ytlnpfggcmjljbaa
