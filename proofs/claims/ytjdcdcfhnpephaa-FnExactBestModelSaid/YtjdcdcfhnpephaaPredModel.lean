/- slices.IndexFunc, slices.ContainsFunc and impl.chosen over a slice of Models, at any predicate. -/
import Derived.Test.YtjdcdcfhnpephaaBase
import Derived.Test.YtjdcdcfhnpephaaIdx
import Derived.Test.YtjdcdcfhnpephaaRowModel
import Derived.Shelf.Abstract
namespace Go.Proofs.Ytjdcdcfhnpephaa
open Go.RowKit

theorem appModelP : AppF Try.prog 60 25 3 24 := appF_of (z := .agg #[.int .i64 0, .int .i64 0, .int .i64 0]) Try.underlying60 (by kernel_rfl) rfl
set_option maxHeartbeats 4000000 in
theorem chosenModel_c (p : Int × Int × Int → Bool) (g : Nat) (lb : Array Value) (eg : ∀ args w, (callFunc g args).run Try.prog w = .ok (.enter g args) w) (u : Value) (xs : List (Int × Int × Int)) (w : World) (hu : Rd cel3 w u xs) (hlen : xs.length ≤ 1000000000)
    (hp : ∀ x y z W, (x, y, z) ∈ xs → Bel w W → Calls Try.prog g (#[.agg #[.int .i64 x, .int .i64 y, .int .i64 z]] ++ lb) W (Ret (.bool (p (x, y, z))) W)) :
    Calls Try.prog 84 #[u, .func (.func g) #[] lb] w (RetRow 25 3 (fun v => v) (xs.filter p).length (cel3.row (xs.filter p)) w) := by
  generalize hR : RetRow _ _ _ _ _ w = R
  have HR := Lib.hid hR
  clear hR
  obtain ⟨a, n, c, rfl, hs⟩ := hu.sl
  have hcap := hs.le; have hmax := hs.cap
  unfold maxLen at hmax
  have HL := Lib.hid hs.len
  rw [← HL.out] at hlen
  have HP := Lib.hid hp
  clear hp
  go_enter Try.func84, Try.ntmps84
  go_wp2
  go_loopw [5, 11] (fun o i wr => ∃ k : Nat, k ≤ n ∧ i = .int .i64 k ∧ Bel w wr ∧ Hid (wr.ownsRow w.heap.size 25 3 o ((xs.take k).filter p).length (cel3.row ((xs.take k).filter p)))) (fun _ i _ => n - (intOf i).toNat)
  case atStart => exact ⟨0, by omega, by go_num, by (repeat (first | with_reducible exact Bel.refl _ | with_reducible assumption | apply Bel.ext | apply Bel.alloc | apply Bel.drew | exact Bel.refl _ | refine Bel.set ?_ (by first | (simp; done) | (simp [go_sem]; done) | omega) _)), Lib.hid (by refine own_empty _ _ _ _ ?_; exact (by (repeat (first | with_reducible exact Bel.refl _ | with_reducible assumption | apply Bel.ext | apply Bel.alloc | apply Bel.drew | exact Bel.refl _ | refine Bel.set ?_ (by first | (simp; done) | (simp [go_sem]; done) | omega) _)) : Bel w _).size)⟩
  case round =>
    obtain ⟨k, hk, rfl, hbel, hown⟩ := hrel
    obtain ⟨g', rfl⟩ := ext_ex hbel
    by_cases hlt : k < n
    · obtain ⟨b, off, rfl, hb⟩ := hs.base hlt
      obtain ⟨x, y, z, hx, hc0, hc1, hc2⟩ := hs.at3 hlt
      have hfl := filter_take_len p xs k
      rcases hq : p (x, y, z) with _ | _
      · have HF := Lib.hid (filter_take_neg hx.out hq)
        have hcall : ∀ W, Bel w W → Calls Try.prog g (#[.agg #[.int .i64 x, .int .i64 y, .int .i64 z]] ++ lb) W (Ret (.bool false) W) := fun W hW => hq ▸ HP.out x y z W (List.mem_of_getElem? hx.out) hW
        have HC := Lib.hid hcall
        clear hcall hq
        generalize (xs.take k).filter p = ys at *
        go_wp2_with (go_at_fn g; refine Calls.mono (HC.out _ ?_) ?_; (focus (repeat (first | with_reducible exact Bel.refl _ | with_reducible assumption | apply Bel.ext | apply Bel.alloc | apply Bel.drew | exact Bel.refl _ | refine Bel.set ?_ (by first | (simp; done) | (simp [go_sem]; done) | omega) _))); rintro ee ww ⟨rfl, _, rfl⟩)
        go_roundw
        case rel =>
          refine ⟨k + 1, by omega, by go_num, by (repeat (first | with_reducible exact Bel.refl _ | with_reducible assumption | apply Bel.ext | apply Bel.alloc | apply Bel.drew | exact Bel.refl _ | refine Bel.set ?_ (by first | (simp; done) | (simp [go_sem]; done) | omega) _)), Lib.hid ?_⟩
          rw [HF.out]; exact own_bel hown.out (by (repeat (first | with_reducible exact Bel.refl _ | with_reducible assumption | apply Bel.ext | apply Bel.alloc | apply Bel.drew | exact Bel.refl _ | refine Bel.set ?_ (by first | (simp; done) | (simp [go_sem]; done) | omega) _)))
        case measure => simp [intOf]; omega
      · have HF := Lib.hid (filter_take_pos hx.out hq)
        have hcall : ∀ W, Bel w W → Calls Try.prog g (#[.agg #[.int .i64 x, .int .i64 y, .int .i64 z]] ++ lb) W (Ret (.bool true) W) := fun W hW => hq ▸ HP.out x y z W (List.mem_of_getElem? hx.out) hW
        have HC := Lib.hid hcall
        clear hcall hq
        generalize (xs.take k).filter p = ys at *
        go_wp2_with (first | (at_builtin; refine wpList_append_new rfl (.tmp 18) (.tmp 20) 60 25 3 24 rfl appModelP (by decide) w _ _ _ 1 [.int .i64 x, .int .i64 y, .int .i64 z] rfl (by first | with_reducible rfl | (simp [go_sem]; done)) rfl (by intro u hu; simp at hu; first | (subst hu; rfl) | (rcases hu with rfl | rfl <;> rfl) | (rcases hu with rfl | rfl | rfl <;> rfl)) (own_bel hown.out ?_) ?_ (by omega) (by omega) ?_; (focus (repeat (first | with_reducible exact Bel.refl _ | with_reducible assumption | apply Bel.ext | apply Bel.alloc | apply Bel.drew | exact Bel.refl _))); (focus (repeat (first | with_reducible exact Bel.refl _ | with_reducible assumption | apply Bel.ext | apply Bel.alloc | apply Bel.drew | exact Bel.refl _))); intro v2 g2 hown2 hgr2) | (go_at_fn g; refine Calls.mono (HC.out _ ?_) ?_; (focus (repeat (first | with_reducible exact Bel.refl _ | with_reducible assumption | apply Bel.ext | apply Bel.alloc | apply Bel.drew | exact Bel.refl _ | refine Bel.set ?_ (by first | (simp; done) | (simp [go_sem]; done) | omega) _))); rintro ee ww ⟨rfl, _, rfl⟩))
        go_roundw
        case rel =>
          refine ⟨k + 1, by omega, by go_num, by (repeat (first | with_reducible exact Bel.refl _ | with_reducible assumption | apply Bel.ext | apply Bel.alloc | apply Bel.drew | exact Bel.refl _ | refine Bel.set ?_ (by first | (simp; done) | (simp [go_sem]; done) | omega) _)), Lib.hid ?_⟩
          rw [HF.out, Cel.row_append, Cel.row_one, List.length_append]; exact hown2
        case measure => simp [intOf]; omega
    · have hk' : k = n := by omega
      subst hk'
      have hO := hown.out
      rw [List.take_of_length_le (by rw [HL.out]; exact Nat.le_refl _)] at hO
      have HO := Lib.hid hO
      clear hO hown
      go_wp2
      rw [← HR.out]
      exact RetRow.mk' rfl (by (repeat (first | with_reducible exact Bel.refl _ | with_reducible assumption | apply Bel.ext | apply Bel.alloc | apply Bel.drew | exact Bel.refl _ | refine Bel.set ?_ (by first | (simp; done) | (simp [go_sem]; done) | omega) _)) : Bel _ _) HO.out
end Go.Proofs.Ytjdcdcfhnpephaa
