/- Whether a time is in a window: the reference's l15In (as XWinPred, for a seat without the program's inAny). -/
import Derived.Test.YtdneffnnpjgnbabMadePlain
namespace Go.Proofs.Ytdneffnnpjgnbab
open Go.RowKit

def inWinP (t : Int) (z : Int × Int) : Bool := inB t z.1 z.2
theorem inAt_eq (xs : List (Int × Int)) (t : Int) : xs.any (inWinP t) = inAt xs t := by
  unfold inAt
  congr 1
  funext p
  rw [Bool.eq_iff_iff]
  simp [inWinP, inB]
set_option maxHeartbeats 2000000 in
theorem l15In_c (u : Value) (xs : List (Int × Int)) (t : Int) (w : World) (hu : Rd cel2 w u xs) :
    Calls Try.prog 34 #[u, .int .i64 t] w (Ret (.bool (xs.any (inWinP t))) w) := by
  refine hide_ret fun v H => ?_
  obtain ⟨a, n, c, rfl, hs⟩ := hu.sl
  have hcap := hs.le; have hmax := hs.cap
  unfold maxLen at hmax
  have HL := Lib.hid hs.len
  go_enter Try.func34, Try.ntmps34
  go_wp2
  go_loopw [5] (fun i wr => ∃ k : Nat, k ≤ n ∧ i = .int .i64 k ∧ (∃ g, wr = ext w g) ∧ Hid (v = .bool ((xs.drop k).any (inWinP t)))) (fun i _ => n - (intOf i).toNat)
  case atStart => exact ⟨0, Nat.zero_le _, rfl, ext_ex (Bel.refl _), Lib.hid (by rw [← H.out]; rfl)⟩
  case round =>
    obtain ⟨k, hk, rfl, ⟨g, rfl⟩, hv⟩ := hrel
    by_cases hlt : k < n
    · obtain ⟨b, off, rfl, hb⟩ := hs.base hlt
      obtain ⟨x, y, hx, hc0, hc1⟩ := hs.at2 hlt
      have HC := Lib.hid (fun w => in_c t x y w)
      rcases hq : inB t x y with _ | _
      · have hcall : ∀ W, Calls Try.prog 40 #[.int .i64 t, .int .i64 x, .int .i64 y] W (Same (.bool false) W) := fun W => hq ▸ l00In_c t x y W
        have HQ := Lib.hid hq
        have HC := Lib.hid hcall
        clear hcall hq
        go_wp2_with fail
        refine region_ext (by kernel_rfl) (by kernel_rfl) ?_
        repeat (go_big_quiet_step (first | (go_at_call 40; exact Calls.in_same (HC.out _))))
        refine wpQuiet_nil ?_
        rintro _ ⟨_, rfl⟩
        go_wp2
        go_roundw
        case rel =>
          refine ⟨k + 1, by omega, by go_num, ext_ex (by (repeat (first | with_reducible exact Bel.refl _ | with_reducible assumption | apply Bel.ext | apply Bel.alloc | apply Bel.drew | exact Bel.refl _ | refine Bel.set ?_ (by first | (simp; done) | (simp [go_sem]; done) | omega) _)) : Bel _ _), Lib.hid ?_⟩
          rw [hv.out, drop_cons_of hx.out]; simp [inWinP, HQ.out]
        case measure => simp [intOf]; omega
      · have hcall : ∀ W, Calls Try.prog 40 #[.int .i64 t, .int .i64 x, .int .i64 y] W (Same (.bool true) W) := fun W => hq ▸ l00In_c t x y W
        have HQ := Lib.hid hq
        have HC := Lib.hid hcall
        clear hcall hq
        go_wp2_with fail
        refine region_ext (by kernel_rfl) (by kernel_rfl) ?_
        repeat (go_big_quiet_step (first | (go_at_call 40; exact Calls.in_same (HC.out _))))
        refine wpQuiet_nil ?_
        rintro _ ⟨_, rfl⟩
        go_wp2
        go_ret
        refine Ret.mk ?_ (?_ : Bel _ _)
        · rw [hv.out, drop_cons_of hx.out]; simp [inWinP, HQ.out]
        · (repeat (first | with_reducible exact Bel.refl _ | with_reducible assumption | apply Bel.ext | apply Bel.alloc | apply Bel.drew | exact Bel.refl _ | refine Bel.set ?_ (by first | (simp; done) | (simp [go_sem]; done) | omega) _))
    · go_wp2
      go_ret
      refine Ret.mk ?_ (?_ : Bel _ _)
      · rw [hv.out, List.drop_of_length_le (by rw [← HL.out]; omega)]; simp
      · (repeat (first | with_reducible exact Bel.refl _ | with_reducible assumption | apply Bel.ext | apply Bel.alloc | apply Bel.drew | exact Bel.refl _ | refine Bel.set ?_ (by first | (simp; done) | (simp [go_sem]; done) | omega) _))
end Go.Proofs.Ytdneffnnpjgnbab
