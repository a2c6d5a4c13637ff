/- slices.IndexFunc, slices.ContainsFunc and impl.chosen over a slice of Extremums, at any predicate. -/
import Derived.Test.YtknlkljflibjbaaBase
import Derived.Test.YtknlkljflibjbaaIdx
import Derived.Test.YtknlkljflibjbaaRowExtremum
import Derived.Shelf.Abstract
namespace Go.Proofs.Ytknlkljflibjbaa
open Go.RowKit

set_option maxHeartbeats 4000000 in
theorem chosenExtremum_c (p : Int × Int → Bool) (g : Nat) (lb : Array Value) (eg : ∀ args w, (callFunc g args).run Try.prog w = .ok (.enter g args) w) (u : Value) (xs : List (Int × Int)) (w : World) (hu : Rd cel2 w u xs) (hlen : xs.length ≤ 1000000000)
    (hp : ∀ x y W, (x, y) ∈ xs → Bel w W → Calls Try.prog g (#[.agg #[.int .i64 x, .int .i64 y]] ++ lb) W (Ret (.bool (p (x, y))) W)) :
    Calls Try.prog 82 #[u, .func (.func g) #[] lb] w (RetRow 88 2 (fun v => v) (xs.filter p).length (cel2.row (xs.filter p)) w) := by
  generalize hR : RetRow _ _ _ _ _ w = R
  have HR := Lib.hid hR
  clear hR
  obtain ⟨a, n, c, rfl, hs⟩ := hu.sl
  have hcap := hs.le; have hmax := hs.cap
  unfold maxLen at hmax
  have HL := Lib.hid hs.len
  rw [← HL.out] at hlen
  have HP := Lib.hid hp
  clear hp
  go_enter Try.func82, Try.ntmps82
  go_wp2
  go_loopw [5, 11] (fun o i wr => ∃ k : Nat, k ≤ n ∧ i = .int .i64 k ∧ Bel w wr ∧ Hid (wr.ownsRow w.heap.size 88 2 o ((xs.take k).filter p).length (cel2.row ((xs.take k).filter p)))) (fun _ i _ => n - (intOf i).toNat)
  case atStart => exact ⟨0, by omega, by go_num, by (repeat (first | exact Bel.refl _ | apply Bel.ext | apply Bel.alloc | apply Bel.drew | refine Bel.set ?_ (by first | (simp; done) | (simp [go_sem]; done) | omega) _)), Lib.hid (by refine own_empty _ _ _ _ ?_; exact (by (repeat (first | exact Bel.refl _ | apply Bel.ext | apply Bel.alloc | apply Bel.drew | refine Bel.set ?_ (by first | (simp; done) | (simp [go_sem]; done) | omega) _)) : Bel w _).size)⟩
  case round =>
    obtain ⟨k, hk, rfl, hbel, hown⟩ := hrel
    obtain ⟨g', rfl⟩ := ext_ex hbel
    by_cases hlt : k < n
    · obtain ⟨b, off, rfl, hb⟩ := hs.base hlt
      obtain ⟨x, y, hx, hc0, hc1⟩ := hs.at2 hlt
      have hfl := filter_take_len p xs k
      rcases hq : p (x, y) with _ | _
      · have HF := Lib.hid (filter_take_neg hx.out hq)
        have hcall : ∀ W, Bel w W → Calls Try.prog g (#[.agg #[.int .i64 x, .int .i64 y]] ++ lb) W (Ret (.bool false) W) := fun W hW => hq ▸ HP.out x y W (List.mem_of_getElem? hx.out) hW
        have HC := Lib.hid hcall
        clear hcall hq
        generalize (xs.take k).filter p = ys at *
        go_wp2_with (go_at_fn g; refine Calls.mono (HC.out _ ?_) ?_; (focus (repeat (first | exact Bel.refl _ | apply Bel.ext | apply Bel.alloc | apply Bel.drew | refine Bel.set ?_ (by first | (simp; done) | (simp [go_sem]; done) | omega) _))); rintro ee ww ⟨rfl, _, rfl⟩)
        go_roundw
        case rel =>
          refine ⟨k + 1, by omega, by go_num, by (repeat (first | exact Bel.refl _ | apply Bel.ext | apply Bel.alloc | apply Bel.drew | refine Bel.set ?_ (by first | (simp; done) | (simp [go_sem]; done) | omega) _)), Lib.hid ?_⟩
          rw [HF.out]; exact own_bel hown.out (by (repeat (first | exact Bel.refl _ | apply Bel.ext | apply Bel.alloc | apply Bel.drew | refine Bel.set ?_ (by first | (simp; done) | (simp [go_sem]; done) | omega) _)))
        case measure => simp [intOf]; omega
      · have HF := Lib.hid (filter_take_pos hx.out hq)
        have hcall : ∀ W, Bel w W → Calls Try.prog g (#[.agg #[.int .i64 x, .int .i64 y]] ++ lb) W (Ret (.bool true) W) := fun W hW => hq ▸ HP.out x y W (List.mem_of_getElem? hx.out) hW
        have HC := Lib.hid hcall
        clear hcall hq
        generalize (xs.take k).filter p = ys at *
        go_wp2_with (first | (at_builtin; refine wpList_append_new rfl (.tmp 18) (.tmp 20) 24 88 2 16 rfl appExtremum (by decide) w _ _ _ 1 [.int .i64 x, .int .i64 y] rfl (by first | with_reducible rfl | (simp [go_sem]; done)) rfl (by intro u hu; simp at hu; first | (subst hu; rfl) | (rcases hu with rfl | rfl <;> rfl) | (rcases hu with rfl | rfl | rfl <;> rfl)) (own_bel hown.out ?_) ?_ (by omega) (by omega) ?_; (focus (repeat (first | exact Bel.refl _ | apply Bel.ext | apply Bel.alloc | apply Bel.drew))); (focus (repeat (first | exact Bel.refl _ | apply Bel.ext | apply Bel.alloc | apply Bel.drew))); intro v2 g2 hown2 hgr2) | (go_at_fn g; refine Calls.mono (HC.out _ ?_) ?_; (focus (repeat (first | exact Bel.refl _ | apply Bel.ext | apply Bel.alloc | apply Bel.drew | refine Bel.set ?_ (by first | (simp; done) | (simp [go_sem]; done) | omega) _))); rintro ee ww ⟨rfl, _, rfl⟩))
        go_roundw
        case rel =>
          refine ⟨k + 1, by omega, by go_num, by (repeat (first | exact Bel.refl _ | apply Bel.ext | apply Bel.alloc | apply Bel.drew | refine Bel.set ?_ (by first | (simp; done) | (simp [go_sem]; done) | omega) _)), Lib.hid ?_⟩
          rw [HF.out, Cel.row_append, Cel.row_one, List.length_append]; exact hown2
        case measure => simp [intOf]; omega
    · have hk' : k = n := by omega
      subst hk'
      have hO := hown.out
      rw [List.take_of_length_le (by rw [HL.out]; exact Nat.le_refl _)] at hO
      have HO := Lib.hid hO
      clear hO hown
      go_wp2
      rw [← HR.out]
      exact RetRow.mk' rfl (by (repeat (first | exact Bel.refl _ | apply Bel.ext | apply Bel.alloc | apply Bel.drew | refine Bel.set ?_ (by first | (simp; done) | (simp [go_sem]; done) | omega) _)) : Bel _ _) HO.out
end Go.Proofs.Ytknlkljflibjbaa
