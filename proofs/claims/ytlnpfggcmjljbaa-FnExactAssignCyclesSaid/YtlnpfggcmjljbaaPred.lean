/- slices.IndexFunc and slices.ContainsFunc over int64s, at any predicate; impl.allIn; no memory of the caller is changed. -/
import Derived.Test.YtlnpfggcmjljbaaBase
import Derived.Test.YtlnpfggcmjljbaaIdx
import Derived.Shelf.Abstract
namespace Go.Proofs.Ytlnpfggcmjljbaa
open Go.RowKit

set_option maxHeartbeats 2000000 in
theorem IndexFuncI_c (p : Int → Bool) (g : Nat) (lb : Array Value) (eg : ∀ args w, (callFunc g args).run Try.prog w = .ok (.enter g args) w) (u : Value) (xs : List Int) (w : World) (hu : Rd celI w u xs)
    (hp : ∀ x W, Bel w W → Calls Try.prog g (#[.int .i64 x] ++ lb) W (Ret (.bool (p x)) W)) :
    Calls Try.prog 84 #[u, .func (.func g) #[] lb] w (Ret (.int .i64 (idxFrom p 0 xs)) w) := by
  refine hide_ret fun v H => ?_
  obtain ⟨a, n, c, rfl, hs⟩ := hu.sl
  have hcap := hs.le; have hmax := hs.cap
  unfold maxLen at hmax
  have HL := Lib.hid hs.len
  have HP := Lib.hid hp
  clear hp
  go_enter Try.func84, Try.ntmps84
  go_wp2
  go_loopw [5, 8] (fun _ i wr => ∃ k : Nat, k ≤ n ∧ i = .int .i64 k ∧ (∃ g, wr = ext w g) ∧ Hid (v = .int .i64 (idxFrom p k (xs.drop k)))) (fun _ i _ => n - (intOf i).toNat)
  case atStart => exact ⟨0, Nat.zero_le _, rfl, ext_ex (Bel.refl _), Lib.hid (by rw [← H.out]; rfl)⟩
  case round =>
    obtain ⟨k, hk, rfl, ⟨g', rfl⟩, hv⟩ := hrel
    by_cases hlt : k < n
    · obtain ⟨b, off, rfl, hb⟩ := hs.base hlt
      obtain ⟨x, hx, hc0⟩ := hs.at1 hlt
      rcases hq : p x with _ | _
      · have HQ := Lib.hid hq
        have hcall : ∀ W, Bel w W → Calls Try.prog g (#[.int .i64 x] ++ lb) W (Ret (.bool false) W) := fun W hW => hq ▸ HP.out x W hW
        have HC := Lib.hid hcall
        clear hcall hq
        go_wp2_with (go_at_fn g; refine Calls.mono (HC.out _ ?_) ?_; (focus (repeat (first | exact Bel.refl _ | apply Bel.ext | apply Bel.alloc | apply Bel.drew | refine Bel.set ?_ (by first | (simp; done) | (simp [go_sem]; done) | omega) _))); rintro ee ww ⟨rfl, _, rfl⟩)
        go_roundw
        case rel =>
          refine ⟨k + 1, by omega, by go_num, ext_ex (by (repeat (first | exact Bel.refl _ | apply Bel.ext | apply Bel.alloc | apply Bel.drew | refine Bel.set ?_ (by first | (simp; done) | (simp [go_sem]; done) | omega) _)) : Bel _ _), Lib.hid ?_⟩
          rw [hv.out, drop_cons_of hx.out, idxFrom_miss HQ.out]; rfl
        case measure => simp [intOf]; omega
      · have HQ := Lib.hid hq
        have hcall : ∀ W, Bel w W → Calls Try.prog g (#[.int .i64 x] ++ lb) W (Ret (.bool true) W) := fun W hW => hq ▸ HP.out x W hW
        have HC := Lib.hid hcall
        clear hcall hq
        go_wp2_with (go_at_fn g; refine Calls.mono (HC.out _ ?_) ?_; (focus (repeat (first | exact Bel.refl _ | apply Bel.ext | apply Bel.alloc | apply Bel.drew | refine Bel.set ?_ (by first | (simp; done) | (simp [go_sem]; done) | omega) _))); rintro ee ww ⟨rfl, _, rfl⟩)
        go_ret
        refine Ret.mk ?_ (?_ : Bel _ _)
        · rw [hv.out, drop_cons_of hx.out, idxFrom_hit HQ.out]; rfl
        · (repeat (first | exact Bel.refl _ | apply Bel.ext | apply Bel.alloc | apply Bel.drew | refine Bel.set ?_ (by first | (simp; done) | (simp [go_sem]; done) | omega) _))
    · go_wp2
      go_ret
      refine Ret.mk ?_ (?_ : Bel _ _)
      · rw [hv.out, List.drop_of_length_le (by rw [← HL.out]; omega)]; rfl
      · (repeat (first | exact Bel.refl _ | apply Bel.ext | apply Bel.alloc | apply Bel.drew | refine Bel.set ?_ (by first | (simp; done) | (simp [go_sem]; done) | omega) _))
set_option maxHeartbeats 2000000 in
theorem ContainsFuncI_c (p : Int → Bool) (g : Nat) (lb : Array Value) (eg : ∀ args w, (callFunc g args).run Try.prog w = .ok (.enter g args) w) (u : Value) (xs : List Int) (w : World) (hu : Rd celI w u xs)
    (hp : ∀ x W, Bel w W → Calls Try.prog g (#[.int .i64 x] ++ lb) W (Ret (.bool (p x)) W)) :
    Calls Try.prog 79 #[u, .func (.func g) #[] lb] w (Ret (.bool (xs.any p)) w) := by
  rw [← idxFrom_any p xs 0 (Int.le_refl _)]
  refine hide_ret fun v H => ?_
  have HC := Lib.hid (IndexFuncI_c p g lb eg u xs w hu hp)
  generalize idxFrom p 0 xs = r at *
  by_cases h : 0 ≤ r
  · go_enter Try.func79, Try.ntmps79
    go_wp2_with (go_at_call 84; refine HC.out.mono ?_; rintro ee ww ⟨rfl, _, rfl⟩)
    go_ret
    refine Ret.mk ?_ (?_ : Bel _ _)
    · rw [← H.out]; simp [h]
    · (repeat (first | exact Bel.refl _ | apply Bel.ext | apply Bel.alloc | apply Bel.drew | refine Bel.set ?_ (by first | (simp; done) | (simp [go_sem]; done) | omega) _))
  · go_enter Try.func79, Try.ntmps79
    go_wp2_with (go_at_call 84; refine HC.out.mono ?_; rintro ee ww ⟨rfl, _, rfl⟩)
    go_ret
    refine Ret.mk ?_ (?_ : Bel _ _)
    · rw [← H.out]; simp [h]
    · (repeat (first | exact Bel.refl _ | apply Bel.ext | apply Bel.alloc | apply Bel.drew | refine Bel.set ?_ (by first | (simp; done) | (simp [go_sem]; done) | omega) _))
theorem allIn_pred (l h : Int) (B : Nat) (w : World) (hB : B + 1 < w.heap.size) (h0 : w.cell? ⟨B, 0, none⟩ = some (.int .i64 l)) (h1 : w.cell? ⟨B + 1, 0, none⟩ = some (.int .i64 h)) (x : Int) :
    Calls Try.prog 80 (#[.int .i64 x] ++ #[.pointer (some ⟨B, 0, none⟩), .pointer (some ⟨B + 1, 0, none⟩)]) w (Ret (.bool (!inB x l h)) w) := by
  refine hide_ret fun v H => ?_
  show Calls Try.prog 80 #[.int .i64 x, .pointer (some ⟨B, 0, none⟩), .pointer (some ⟨B + 1, 0, none⟩)] w _
  have hB' : B < w.heap.size := by omega
  rcases hq : inB x l h with _ | _
  · rw [hq] at H
    have hc : ∀ w, Calls Try.prog 61 #[.int .i64 x, .int .i64 l, .int .i64 h] w (Same (.bool false) w) := fun w => hq ▸ in_c x l h w
    have HC := Lib.hid hc
    clear hc hq
    go_enter Try.func80, Try.ntmps80
    go_wp2_with (first | (go_at_call 61; refine (HC.out _).mono ?_; rintro ee ww ⟨rfl, rfl⟩))
    all_goals go_ret
    all_goals refine Ret.mk ?_ (?_ : Bel _ _)
    all_goals first | (repeat (first | exact Bel.refl _ | apply Bel.ext | apply Bel.alloc | apply Bel.drew | refine Bel.set ?_ (by first | (simp; done) | (simp [go_sem]; done) | omega) _)); done | exact H.out
  · rw [hq] at H
    have hc : ∀ w, Calls Try.prog 61 #[.int .i64 x, .int .i64 l, .int .i64 h] w (Same (.bool true) w) := fun w => hq ▸ in_c x l h w
    have HC := Lib.hid hc
    clear hc hq
    go_enter Try.func80, Try.ntmps80
    go_wp2_with (first | (go_at_call 61; refine (HC.out _).mono ?_; rintro ee ww ⟨rfl, rfl⟩))
    all_goals go_ret
    all_goals refine Ret.mk ?_ (?_ : Bel _ _)
    all_goals first | (repeat (first | exact Bel.refl _ | apply Bel.ext | apply Bel.alloc | apply Bel.drew | refine Bel.set ?_ (by first | (simp; done) | (simp [go_sem]; done) | omega) _)); done | exact H.out
def allInB (xs : List Int) (l h : Int) : Bool := xs.all fun x => inB x l h
theorem allInB_get {xs : List Int} {l h : Int} (ha : allInB xs l h = true) {k : Nat} {x : Int} (hx : xs[k]? = some x) : l ≤ x ∧ x ≤ h := by
  unfold allInB at ha
  rw [List.all_eq_true] at ha
  exact inB_iff.1 (ha x (List.mem_of_getElem? hx))
set_option maxHeartbeats 2000000 in
theorem allIn_c (u : Value) (xs : List Int) (l h : Int) (w : World) (hu : Rd celI w u xs) :
    Calls Try.prog 66 #[u, .int .i64 l, .int .i64 h] w (Ret (.bool (allInB xs l h)) w) := by
  refine hide_ret fun v H => ?_
  have eg : ∀ args w, (callFunc 80 args).run Try.prog w = .ok (.enter 80 args) w := enters_of Try.func80 (by kernel_rfl) rfl
  have hcon := ContainsFuncI_c (fun x => !inB x l h) 80 #[.pointer (some ⟨w.heap.size, 0, none⟩), .pointer (some ⟨w.heap.size + 1, 0, none⟩)] eg u xs ((w.alloc (.cells #[.int .i64 l] 2)).alloc (.cells #[.int .i64 h] 2))
    (hu.bel (by (repeat (first | exact Bel.refl _ | apply Bel.ext | apply Bel.alloc | apply Bel.drew | refine Bel.set ?_ (by first | (simp; done) | (simp [go_sem]; done) | omega) _)))) (fun x W hW => allIn_pred l h w.heap.size W (by have := hW.size; simp at this; omega) (by rw [Below.cell hW (p := ⟨w.heap.size, 0, none⟩) (by simp; omega)]; simp [go_sem]) (by rw [Below.cell hW (p := ⟨w.heap.size + 1, 0, none⟩) (by simp)]; simp [go_sem]) x)
  have hne : (xs.any fun x => !inB x l h) = !allInB xs l h := by unfold allInB; simp [List.any_eq_not_all_not]
  rw [hne] at hcon
  generalize allInB xs l h = r at *
  have HC := Lib.hid hcon
  clear hcon hne
  go_enter Try.func66, Try.ntmps66
  rcases r with _ | _
  all_goals
    go_wp2_with (go_at_call 79; refine HC.out.mono ?_; rintro ee ww ⟨rfl, _, rfl⟩)
    go_ret
    refine Ret.mk ?_ (?_ : Bel _ _)
    · exact H.out
    · (repeat (first | exact Bel.refl _ | apply Bel.ext | apply Bel.alloc | apply Bel.drew | refine Bel.set ?_ (by first | (simp; done) | (simp [go_sem]; done) | omega) _))
end Go.Proofs.Ytlnpfggcmjljbaa
