/- slices.IndexFunc, slices.ContainsFunc and impl.chosen over a slice of Windows, at any predicate. -/
import Derived.Test.YtdneffnnpjgnbaaBase
import Derived.Test.YtdneffnnpjgnbaaIdx
import Derived.Test.YtdneffnnpjgnbaaRowRule
import Derived.Shelf.Abstract
namespace Go.Proofs.Ytdneffnnpjgnbaa
open Go.RowKit

set_option maxHeartbeats 2000000 in
theorem IndexFuncRule_c (p : RuleD → Bool) (g : Nat) (lb : Array Value) (eg : ∀ args w, (callFunc g args).run Try.prog w = .ok (.enter g args) w) (u : Value) (xs : List RuleD) (w : World) (hu : Rd celR w u xs)
    (hp : ∀ c x1 x2 x3 x4 x5 W, (c, x1, x2, x3, x4, x5) ∈ xs → Bel w W → Calls Try.prog g (#[.agg #[.string c, .int .i64 x1, .int .i64 x2, .int .i64 x3, .int .i64 x4, .int .i64 x5]] ++ lb) W (Ret (.bool (p (c, x1, x2, x3, x4, x5))) W)) :
    Calls Try.prog 49 #[u, .func (.func g) #[] lb] w (Ret (.int .i64 (idxFrom p 0 xs)) w) := by
  refine hide_ret fun v H => ?_
  obtain ⟨a, n, cc, rfl, hs⟩ := hu.sl
  have hcap := hs.le; have hmax := hs.cap
  unfold maxLen at hmax
  have HL := Lib.hid hs.len
  have HP := Lib.hid hp
  clear hp
  go_enter Try.func49, Try.ntmps49
  go_wp2
  go_loopw [5, 8] (fun _ i wr => ∃ k : Nat, k ≤ n ∧ i = .int .i64 k ∧ (∃ g, wr = ext w g) ∧ Hid (v = .int .i64 (idxFrom p k (xs.drop k)))) (fun _ i _ => n - (intOf i).toNat)
  case atStart => exact ⟨0, Nat.zero_le _, rfl, ext_ex (Bel.refl _), Lib.hid (by rw [← H.out]; rfl)⟩
  case round =>
    obtain ⟨k, hk, rfl, ⟨g', rfl⟩, hv⟩ := hrel
    by_cases hlt : k < n
    · obtain ⟨b, off, rfl, hb⟩ := hs.base hlt
      obtain ⟨c, x1, x2, x3, x4, x5, hx, hc0, hc1, hc2, hc3, hc4, hc5⟩ := hs.atR hlt
      rcases hq : p (c, x1, x2, x3, x4, x5) with _ | _
      · have HQ := Lib.hid hq
        have hcall : ∀ W, Bel w W → Calls Try.prog g (#[.agg #[.string c, .int .i64 x1, .int .i64 x2, .int .i64 x3, .int .i64 x4, .int .i64 x5]] ++ lb) W (Ret (.bool false) W) := fun W hW => hq ▸ HP.out c x1 x2 x3 x4 x5 W (List.mem_of_getElem? hx.out) hW
        have HC := Lib.hid hcall
        clear hcall hq
        go_wp2_with (go_at_fn g; refine Calls.mono (HC.out _ ?_) ?_; (focus (repeat (first | with_reducible exact Bel.refl _ | with_reducible assumption | apply Bel.ext | apply Bel.alloc | apply Bel.drew | exact Bel.refl _ | refine Bel.set ?_ (by first | (simp; done) | (simp [go_sem]; done) | omega) _))); rintro ee ww ⟨rfl, _, rfl⟩)
        go_roundw
        case rel =>
          refine ⟨k + 1, by omega, by go_num, ext_ex (by (repeat (first | with_reducible exact Bel.refl _ | with_reducible assumption | apply Bel.ext | apply Bel.alloc | apply Bel.drew | exact Bel.refl _ | refine Bel.set ?_ (by first | (simp; done) | (simp [go_sem]; done) | omega) _)) : Bel _ _), Lib.hid ?_⟩
          rw [hv.out, drop_cons_of hx.out, idxFrom_miss HQ.out]; rfl
        case measure => simp [intOf]; omega
      · have HQ := Lib.hid hq
        have hcall : ∀ W, Bel w W → Calls Try.prog g (#[.agg #[.string c, .int .i64 x1, .int .i64 x2, .int .i64 x3, .int .i64 x4, .int .i64 x5]] ++ lb) W (Ret (.bool true) W) := fun W hW => hq ▸ HP.out c x1 x2 x3 x4 x5 W (List.mem_of_getElem? hx.out) hW
        have HC := Lib.hid hcall
        clear hcall hq
        go_wp2_with (go_at_fn g; refine Calls.mono (HC.out _ ?_) ?_; (focus (repeat (first | with_reducible exact Bel.refl _ | with_reducible assumption | apply Bel.ext | apply Bel.alloc | apply Bel.drew | exact Bel.refl _ | refine Bel.set ?_ (by first | (simp; done) | (simp [go_sem]; done) | omega) _))); rintro ee ww ⟨rfl, _, rfl⟩)
        go_ret
        refine Ret.mk ?_ (?_ : Bel _ _)
        · rw [hv.out, drop_cons_of hx.out, idxFrom_hit HQ.out]; rfl
        · (repeat (first | with_reducible exact Bel.refl _ | with_reducible assumption | apply Bel.ext | apply Bel.alloc | apply Bel.drew | exact Bel.refl _ | refine Bel.set ?_ (by first | (simp; done) | (simp [go_sem]; done) | omega) _))
    · go_wp2
      go_ret
      refine Ret.mk ?_ (?_ : Bel _ _)
      · rw [hv.out, List.drop_of_length_le (by rw [← HL.out]; omega)]; rfl
      · (repeat (first | with_reducible exact Bel.refl _ | with_reducible assumption | apply Bel.ext | apply Bel.alloc | apply Bel.drew | exact Bel.refl _ | refine Bel.set ?_ (by first | (simp; done) | (simp [go_sem]; done) | omega) _))
set_option maxHeartbeats 2000000 in
theorem ContainsFuncRule_c (p : RuleD → Bool) (g : Nat) (lb : Array Value) (eg : ∀ args w, (callFunc g args).run Try.prog w = .ok (.enter g args) w) (u : Value) (xs : List RuleD) (w : World) (hu : Rd celR w u xs)
    (hp : ∀ c x1 x2 x3 x4 x5 W, (c, x1, x2, x3, x4, x5) ∈ xs → Bel w W → Calls Try.prog g (#[.agg #[.string c, .int .i64 x1, .int .i64 x2, .int .i64 x3, .int .i64 x4, .int .i64 x5]] ++ lb) W (Ret (.bool (p (c, x1, x2, x3, x4, x5))) W)) :
    Calls Try.prog 31 #[u, .func (.func g) #[] lb] w (Ret (.bool (xs.any p)) w) := by
  rw [← idxFrom_any p xs 0 (Int.le_refl _)]
  refine hide_ret fun v H => ?_
  have HC := Lib.hid (IndexFuncRule_c p g lb eg u xs w hu hp)
  generalize idxFrom p 0 xs = r at *
  by_cases h : 0 ≤ r
  all_goals
    go_enter Try.func31, Try.ntmps31
    go_wp2_with (go_at_call 49; refine HC.out.mono ?_; rintro ee ww ⟨rfl, _, rfl⟩)
    go_ret
    refine Ret.mk ?_ (?_ : Bel _ _)
    · rw [← H.out]; simp [h]
    · (repeat (first | with_reducible exact Bel.refl _ | with_reducible assumption | apply Bel.ext | apply Bel.alloc | apply Bel.drew | exact Bel.refl _ | refine Bel.set ?_ (by first | (simp; done) | (simp [go_sem]; done) | omega) _))
end Go.Proofs.Ytdneffnnpjgnbaa
