/- slices.IndexFunc, slices.ContainsFunc and impl.chosen over a slice of Windows, at any predicate. -/
import Derived.Test.YtehfbpdjhkdchaaBase
import Derived.Test.YtehfbpdjhkdchaaIdx
import Derived.Test.YtehfbpdjhkdchaaRowWindow
import Derived.Shelf.Abstract
namespace Go.Proofs.Ytehfbpdjhkdchaa
open Go.RowKit

set_option maxHeartbeats 2000000 in
theorem IndexFuncWindow_c (p : Int × Int → Bool) (g : Nat) (lb : Array Value) (eg : ∀ args w, (callFunc g args).run Try.prog w = .ok (.enter g args) w) (u : Value) (xs : List (Int × Int)) (w : World) (hu : Rd cel2 w u xs)
    (hp : ∀ x y W, (x, y) ∈ xs → Bel w W → Calls Try.prog g (#[.agg #[.int .i64 x, .int .i64 y]] ++ lb) W (Ret (.bool (p (x, y))) W)) :
    Calls Try.prog 68 #[u, .func (.func g) #[] lb] w (Ret (.int .i64 (idxFrom p 0 xs)) w) := by
  refine hide_ret fun v H => ?_
  obtain ⟨a, n, c, rfl, hs⟩ := hu.sl
  have hcap := hs.le; have hmax := hs.cap
  unfold maxLen at hmax
  have HL := Lib.hid hs.len
  have HP := Lib.hid hp
  clear hp
  go_enter Try.func68, Try.ntmps68
  go_wp2
  go_loopw [5, 8] (fun _ i wr => ∃ k : Nat, k ≤ n ∧ i = .int .i64 k ∧ (∃ g, wr = ext w g) ∧ Hid (v = .int .i64 (idxFrom p k (xs.drop k)))) (fun _ i _ => n - (intOf i).toNat)
  case atStart => exact ⟨0, Nat.zero_le _, rfl, ext_ex (Bel.refl _), Lib.hid (by rw [← H.out]; rfl)⟩
  case round =>
    obtain ⟨k, hk, rfl, ⟨g', rfl⟩, hv⟩ := hrel
    by_cases hlt : k < n
    · obtain ⟨b, off, rfl, hb⟩ := hs.base hlt
      obtain ⟨x, y, hx, hc0, hc1⟩ := hs.at2 hlt
      rcases hq : p (x, y) with _ | _
      · have HQ := Lib.hid hq
        have hcall : ∀ W, Bel w W → Calls Try.prog g (#[.agg #[.int .i64 x, .int .i64 y]] ++ lb) W (Ret (.bool false) W) := fun W hW => hq ▸ HP.out x y W (List.mem_of_getElem? hx.out) hW
        have HC := Lib.hid hcall
        clear hcall hq
        go_wp2_with (go_at_fn g; refine Calls.mono (HC.out _ ?_) ?_; (focus (repeat (first | exact Bel.refl _ | apply Bel.ext | apply Bel.alloc | apply Bel.drew | refine Bel.set ?_ (by first | (simp; done) | (simp [go_sem]; done) | omega) _))); rintro ee ww ⟨rfl, _, rfl⟩)
        go_roundw
        case rel =>
          refine ⟨k + 1, by omega, by go_num, ext_ex (by (repeat (first | exact Bel.refl _ | apply Bel.ext | apply Bel.alloc | apply Bel.drew | refine Bel.set ?_ (by first | (simp; done) | (simp [go_sem]; done) | omega) _)) : Bel _ _), Lib.hid ?_⟩
          rw [hv.out, drop_cons_of hx.out, idxFrom_miss HQ.out]; rfl
        case measure => simp [intOf]; omega
      · have HQ := Lib.hid hq
        have hcall : ∀ W, Bel w W → Calls Try.prog g (#[.agg #[.int .i64 x, .int .i64 y]] ++ lb) W (Ret (.bool true) W) := fun W hW => hq ▸ HP.out x y W (List.mem_of_getElem? hx.out) hW
        have HC := Lib.hid hcall
        clear hcall hq
        go_wp2_with (go_at_fn g; refine Calls.mono (HC.out _ ?_) ?_; (focus (repeat (first | exact Bel.refl _ | apply Bel.ext | apply Bel.alloc | apply Bel.drew | refine Bel.set ?_ (by first | (simp; done) | (simp [go_sem]; done) | omega) _))); rintro ee ww ⟨rfl, _, rfl⟩)
        go_ret
        refine Ret.mk ?_ (?_ : Bel _ _)
        · rw [hv.out, drop_cons_of hx.out, idxFrom_hit HQ.out]; rfl
        · (repeat (first | exact Bel.refl _ | apply Bel.ext | apply Bel.alloc | apply Bel.drew | refine Bel.set ?_ (by first | (simp; done) | (simp [go_sem]; done) | omega) _))
    · go_wp2
      go_ret
      refine Ret.mk ?_ (?_ : Bel _ _)
      · rw [hv.out, List.drop_of_length_le (by rw [← HL.out]; omega)]; rfl
      · (repeat (first | exact Bel.refl _ | apply Bel.ext | apply Bel.alloc | apply Bel.drew | refine Bel.set ?_ (by first | (simp; done) | (simp [go_sem]; done) | omega) _))
set_option maxHeartbeats 2000000 in
theorem ContainsFuncWindow_c (p : Int × Int → Bool) (g : Nat) (lb : Array Value) (eg : ∀ args w, (callFunc g args).run Try.prog w = .ok (.enter g args) w) (u : Value) (xs : List (Int × Int)) (w : World) (hu : Rd cel2 w u xs)
    (hp : ∀ x y W, (x, y) ∈ xs → Bel w W → Calls Try.prog g (#[.agg #[.int .i64 x, .int .i64 y]] ++ lb) W (Ret (.bool (p (x, y))) W)) :
    Calls Try.prog 62 #[u, .func (.func g) #[] lb] w (Ret (.bool (xs.any p)) w) := by
  rw [← idxFrom_any p xs 0 (Int.le_refl _)]
  refine hide_ret fun v H => ?_
  have HC := Lib.hid (IndexFuncWindow_c p g lb eg u xs w hu hp)
  generalize idxFrom p 0 xs = r at *
  by_cases h : 0 ≤ r
  all_goals
    go_enter Try.func62, Try.ntmps62
    go_wp2_with (go_at_call 68; refine HC.out.mono ?_; rintro ee ww ⟨rfl, _, rfl⟩)
    go_ret
    refine Ret.mk ?_ (?_ : Bel _ _)
    · rw [← H.out]; simp [h]
    · (repeat (first | exact Bel.refl _ | apply Bel.ext | apply Bel.alloc | apply Bel.drew | refine Bel.set ?_ (by first | (simp; done) | (simp [go_sem]; done) | omega) _))
set_option maxHeartbeats 4000000 in
theorem chosenWindow_c (p : Int × Int → Bool) (g : Nat) (lb : Array Value) (eg : ∀ args w, (callFunc g args).run Try.prog w = .ok (.enter g args) w) (u : Value) (xs : List (Int × Int)) (w : World) (hu : Rd cel2 w u xs) (hlen : xs.length ≤ 1000000000)
    (hp : ∀ x y W, (x, y) ∈ xs → Bel w W → Calls Try.prog g (#[.agg #[.int .i64 x, .int .i64 y]] ++ lb) W (Ret (.bool (p (x, y))) W)) :
    Calls Try.prog 57 #[u, .func (.func g) #[] lb] w (RetRow 44 2 (fun v => v) (xs.filter p).length (cel2.row (xs.filter p)) w) := by
  generalize hR : RetRow _ _ _ _ _ w = R
  have HR := Lib.hid hR
  clear hR
  obtain ⟨a, n, c, rfl, hs⟩ := hu.sl
  have hcap := hs.le; have hmax := hs.cap
  unfold maxLen at hmax
  have HL := Lib.hid hs.len
  rw [← HL.out] at hlen
  have HP := Lib.hid hp
  clear hp
  go_enter Try.func57, Try.ntmps57
  go_wp2
  go_loopw [5, 11] (fun o i wr => ∃ k : Nat, k ≤ n ∧ i = .int .i64 k ∧ Bel w wr ∧ Hid (wr.ownsRow w.heap.size 44 2 o ((xs.take k).filter p).length (cel2.row ((xs.take k).filter p)))) (fun _ i _ => n - (intOf i).toNat)
  case atStart => exact ⟨0, by omega, by go_num, by (repeat (first | exact Bel.refl _ | apply Bel.ext | apply Bel.alloc | apply Bel.drew | refine Bel.set ?_ (by first | (simp; done) | (simp [go_sem]; done) | omega) _)), Lib.hid (by refine own_empty _ _ _ _ ?_; exact (by (repeat (first | exact Bel.refl _ | apply Bel.ext | apply Bel.alloc | apply Bel.drew | refine Bel.set ?_ (by first | (simp; done) | (simp [go_sem]; done) | omega) _)) : Bel w _).size)⟩
  case round =>
    obtain ⟨k, hk, rfl, hbel, hown⟩ := hrel
    obtain ⟨g', rfl⟩ := ext_ex hbel
    by_cases hlt : k < n
    · obtain ⟨b, off, rfl, hb⟩ := hs.base hlt
      obtain ⟨x, y, hx, hc0, hc1⟩ := hs.at2 hlt
      have hfl := filter_take_len p xs k
      rcases hq : p (x, y) with _ | _
      · have HF := Lib.hid (filter_take_neg hx.out hq)
        have hcall : ∀ W, Bel w W → Calls Try.prog g (#[.agg #[.int .i64 x, .int .i64 y]] ++ lb) W (Ret (.bool false) W) := fun W hW => hq ▸ HP.out x y W (List.mem_of_getElem? hx.out) hW
        have HC := Lib.hid hcall
        clear hcall hq
        generalize (xs.take k).filter p = ys at *
        go_wp2_with (go_at_fn g; refine Calls.mono (HC.out _ ?_) ?_; (focus (repeat (first | exact Bel.refl _ | apply Bel.ext | apply Bel.alloc | apply Bel.drew | refine Bel.set ?_ (by first | (simp; done) | (simp [go_sem]; done) | omega) _))); rintro ee ww ⟨rfl, _, rfl⟩)
        go_roundw
        case rel =>
          refine ⟨k + 1, by omega, by go_num, by (repeat (first | exact Bel.refl _ | apply Bel.ext | apply Bel.alloc | apply Bel.drew | refine Bel.set ?_ (by first | (simp; done) | (simp [go_sem]; done) | omega) _)), Lib.hid ?_⟩
          rw [HF.out]; exact own_bel hown.out (by (repeat (first | exact Bel.refl _ | apply Bel.ext | apply Bel.alloc | apply Bel.drew | refine Bel.set ?_ (by first | (simp; done) | (simp [go_sem]; done) | omega) _)))
        case measure => simp [intOf]; omega
      · have HF := Lib.hid (filter_take_pos hx.out hq)
        have hcall : ∀ W, Bel w W → Calls Try.prog g (#[.agg #[.int .i64 x, .int .i64 y]] ++ lb) W (Ret (.bool true) W) := fun W hW => hq ▸ HP.out x y W (List.mem_of_getElem? hx.out) hW
        have HC := Lib.hid hcall
        clear hcall hq
        generalize (xs.take k).filter p = ys at *
        go_wp2_with (first | (at_builtin; refine wpList_append_new rfl (.tmp 18) (.tmp 20) 25 44 2 16 rfl appWindow (by decide) w _ _ _ 1 [.int .i64 x, .int .i64 y] rfl (by first | with_reducible rfl | (simp [go_sem]; done)) rfl (by intro u hu; simp at hu; first | (subst hu; rfl) | (rcases hu with rfl | rfl <;> rfl) | (rcases hu with rfl | rfl | rfl <;> rfl)) (own_bel hown.out ?_) ?_ (by omega) (by omega) ?_; (focus (repeat (first | exact Bel.refl _ | apply Bel.ext | apply Bel.alloc | apply Bel.drew))); (focus (repeat (first | exact Bel.refl _ | apply Bel.ext | apply Bel.alloc | apply Bel.drew))); intro v2 g2 hown2 hgr2) | (go_at_fn g; refine Calls.mono (HC.out _ ?_) ?_; (focus (repeat (first | exact Bel.refl _ | apply Bel.ext | apply Bel.alloc | apply Bel.drew | refine Bel.set ?_ (by first | (simp; done) | (simp [go_sem]; done) | omega) _))); rintro ee ww ⟨rfl, _, rfl⟩))
        go_roundw
        case rel =>
          refine ⟨k + 1, by omega, by go_num, by (repeat (first | exact Bel.refl _ | apply Bel.ext | apply Bel.alloc | apply Bel.drew | refine Bel.set ?_ (by first | (simp; done) | (simp [go_sem]; done) | omega) _)), Lib.hid ?_⟩
          rw [HF.out, Cel.row_append, Cel.row_one, List.length_append]; exact hown2
        case measure => simp [intOf]; omega
    · have hk' : k = n := by omega
      subst hk'
      have hO := hown.out
      rw [List.take_of_length_le (by rw [HL.out]; exact Nat.le_refl _)] at hO
      have HO := Lib.hid hO
      clear hO hown
      go_wp2
      rw [← HR.out]
      exact RetRow.mk' rfl (by (repeat (first | exact Bel.refl _ | apply Bel.ext | apply Bel.alloc | apply Bel.drew | refine Bel.set ?_ (by first | (simp; done) | (simp [go_sem]; done) | omega) _)) : Bel _ _) HO.out
end Go.Proofs.Ytehfbpdjhkdchaa
