/- The library's stable sort at windows: blocks and passes of merging; at this program. -/
import Derived.Test.YtdneffnnpjgnbabInsW
namespace Go.Proofs.Ytdneffnnpjgnbab
open Go.RowKit Go.Lib Go.Sort Go.Shelf

set_option maxHeartbeats 8000000 in
set_option maxRecDepth 1000000 in
theorem stable_c (blk off cap n : Nat) (d0 : Array (Int × Int)) (w0 : World) (R : RowK encW 2 w0 blk off d0) (hn : d0.size = n) (hsz : n ≤ 1000000) :
    Calls Try.prog 46 #[.slice (some ⟨blk, off, none⟩) n cap, .int .i64 n, .func (.func 37) #[] #[]] w0 fun e w' => e = .returned (.tuple #[]) ∧ ∃ d', Merged (ltOf cmpW) 0 n d0 d' ∧ SWK encW 2 w0 blk off d' w' := by
  have ei : ∀ args w, (callFunc 47 args).run Try.prog w = .ok (.enter 47 args) w := enters_of Try.func47 (by kernel_rfl) rfl
  have es : ∀ args w, (callFunc 48 args).run Try.prog w = .ok (.enter 48 args) w := enters_of Try.func48 (by kernel_rfl) rfl
  have S0 : Aside (SWK encW 2 w0 blk off d0 w0) := SWK.start R.hH
  have hn1 : d0.size ≤ n := by omega
  have hn2 : n ≤ d0.size := by omega
  have HN : Hid (d0.size = n) := hn
  clear hn
  go_enter Try.func46, Try.ntmps46
  go_wp2
  go_loopg [7, 8] n (fun kx s7 s8 wr => ∃ (A : Nat) (dk : Array (Int × Int)), s7 = .int .i64 A ∧ s8 = .int .i64 ((A : Int) + 20) ∧ A ≤ n ∧ n - A ≤ kx ∧ Aside (SWK encW 2 w0 blk off dk wr) ∧ Hid (PermIn 0 n d0 dk) ∧ Hid (∃ u, A = u * 20) ∧ Hid (Blk (ltOf cmpW) 20 n 0 A dk))
  case atStart => exact ⟨0, d0, rfl, rfl, Nat.zero_le _, by omega, S0, Lib.hid (permIn_refl _ _ _), Lib.hid ⟨0, rfl⟩, Lib.hid (blk_none _ _ _ _)⟩
  case round =>
    clear S0
    obtain ⟨A, dk, rfl, rfl, hAn, hkx, S1, HP, HU, HB⟩ := hrel
    have hds : dk.size = n := HP.out.1.trans HN.out
    have HD : Hid (dk.size = n) := hds
    by_cases hlt : A + 20 ≤ n
    · have hltz : (A : Int) + 20 ≤ (n : Int) := by omega
      have hcall := ins_c blk off cap d0 w0 R (by omega) A (A + 20) dk wr (by omega) S1.out (by omega) (by omega)
      rw [hds, show ((A + 20 : Nat) : Int) = (A : Int) + 20 by omega] at hcall
      clear S1 hds
      go_wp2_with (go_at_fn 47; refine hcall.mono ?_; rintro e w1 ⟨rfl, d1, hm, S3⟩)
      have hds := HD.out
      go_roundg (n - (A + 20))
      case measure => omega
      case rel =>
        refine ⟨A + 20, d1, by congr 1, by congr 1, hlt, Nat.le_refl _, S3, Lib.hid (permIn_trans _ _ _ _ _ HP.out (permIn_mono _ _ _ _ _ _ (Nat.zero_le _) hlt (by omega) hm.perm)), ?_, ?_⟩
        · obtain ⟨u, hu⟩ := HU.out; exact Lib.hid ⟨u + 1, by omega⟩
        · obtain ⟨u, hu⟩ := HU.out; exact Lib.hid (blk_snocA (by omega) hu HB.out (by omega) hm)
    · have hltz : ¬ (A : Int) + 20 ≤ (n : Int) := by omega
      have hcall := ins_c blk off cap d0 w0 R (by omega) A n dk wr (by omega) S1.out (by omega) (by omega)
      rw [hds] at hcall
      clear S1 hds
      go_wp2_with (go_at_fn 47; refine hcall.mono ?_; rintro e w1 ⟨rfl, d1, hm, S3⟩)
      have HB1 : Hid (Blk (ltOf cmpW) 20 n 0 n d1) := by obtain ⟨u, hu⟩ := HU.out; exact Lib.hid (blk_allA (by omega) hu HB.out (by omega) hm)
      have HP1 : Hid (PermIn 0 n d0 d1) := Lib.hid (permIn_trans _ _ _ _ _ HP.out (permIn_mono _ _ _ _ _ _ (Nat.zero_le _) (Nat.le_refl _) (by rw [HD.out]; exact Nat.le_refl _) hm.perm))
      have S4 : Aside (SWK encW 2 w0 blk off d1 w1) := S3
      clear hm S3 HB HU HP HD hkx
      go_loopg [6] n (fun kx s6 wr => ∃ (s : Nat) (dk : Array (Int × Int)), s6 = .int .i64 s ∧ 20 ≤ s ∧ s ≤ 3000000 ∧ n - s ≤ kx ∧ Aside (SWK encW 2 w0 blk off dk wr) ∧ Hid (PermIn 0 n d0 dk) ∧ Hid (Blk (ltOf cmpW) s n 0 n dk))
      case atStart => exact ⟨20, d1, rfl, Nat.le_refl _, by omega, by omega, S4, HP1, HB1⟩
      case round =>
        clear S4 HP1 HB1
        obtain ⟨s, dk2, rfl, hs20, hsm, hkx, S1, HP, HB⟩ := hrel
        by_cases hsn : s < n
        · have hsnz : (s : Int) < (n : Int) := by omega
          go_wp2
          go_loopg [7, 8] n (fun kx s7 s8 wr => ∃ (A : Nat) (dj : Array (Int × Int)), s7 = .int .i64 A ∧ s8 = .int .i64 ((A : Int) + 2 * (s : Int)) ∧ A ≤ n ∧ n - A ≤ kx ∧ Aside (SWK encW 2 w0 blk off dj wr) ∧ Hid (PermIn 0 n d0 dj) ∧ Hid (∃ v, A = v * (2 * s)) ∧ Hid (Blk (ltOf cmpW) (2 * s) n 0 A dj) ∧ Hid (Blk (ltOf cmpW) s n A n dj))
          case atStart => exact ⟨0, dk2, rfl, by congr 1; omega, Nat.zero_le _, by omega, S1, HP, Lib.hid ⟨0, by omega⟩, Lib.hid (blk_none _ _ _ _), HB⟩
          case round =>
            clear S1 HP HB
            obtain ⟨A, dj, rfl, rfl, hAn, hkx2, S1, HP, HU, HB, HB2⟩ := hrel
            have hds : dj.size = n := HP.out.1.trans HN.out
            have HD : Hid (dj.size = n) := hds
            by_cases hlt : A + 2 * s ≤ n
            · have hltz : (A : Int) + 2 * (s : Int) ≤ (n : Int) := by omega
              obtain ⟨v, hv⟩ := HU.out
              have hcall := sym_c blk off cap d0 w0 R (by omega) A (A + s) (A + 2 * s) dj wr (by omega) S1.out (by omega) (by omega) (by omega) (blk_atA HB2.out (twice_mul hv) (by omega) (by omega) (by omega)) (blk_atA HB2.out (twice_mul1 hv) (by omega) (by omega) (by omega))
              rw [hds, show ((A + s : Nat) : Int) = (A : Int) + (s : Int) by omega, show ((A + 2 * s : Nat) : Int) = (A : Int) + 2 * (s : Int) by omega] at hcall
              clear S1 hds hv
              go_wp2_with (go_at_fn 48; refine hcall.mono ?_; rintro e w1 ⟨rfl, d1, hm, S3⟩)
              have hds := HD.out
              go_roundg (n - (A + 2 * s))
              case measure => omega
              case rel =>
                refine ⟨A + 2 * s, d1, by congr 1, by first | (congr 1; done) | (congr 1; omega), hlt, Nat.le_refl _, S3, Lib.hid (permIn_trans _ _ _ _ _ HP.out (permIn_mono _ _ _ _ _ _ (Nat.zero_le _) hlt (by omega) hm.perm)), ?_, ?_, Lib.hid (blk_step HB2.out hm.perm)⟩
                · obtain ⟨v, hv⟩ := HU.out; exact Lib.hid ⟨v + 1, twice_succ hv⟩
                · obtain ⟨v, hv⟩ := HU.out; exact Lib.hid (blk_snocA (by omega) hv HB.out (by omega) hm)
            · have hltz : ¬ (A : Int) + 2 * (s : Int) ≤ (n : Int) := by omega
              by_cases hm2 : A + s < n
              · have hm2z : (A : Int) + (s : Int) < (n : Int) := by omega
                obtain ⟨v, hv⟩ := HU.out
                have hcall := sym_c blk off cap d0 w0 R (by omega) A (A + s) n dj wr (by omega) S1.out (by omega) hm2 (by omega) (blk_atA HB2.out (twice_mul hv) (by omega) (by omega) (by omega)) (blk_atA HB2.out (twice_mul1 hv) (by omega) (by omega) (by omega))
                rw [hds, show ((A + s : Nat) : Int) = (A : Int) + (s : Int) by omega] at hcall
                clear S1 hds hv
                go_wp2_with (go_at_fn 48; refine hcall.mono ?_; rintro e w1 ⟨rfl, d1, hm, S3⟩)
                have hds := HD.out
                go_roundg (n - 2 * s)
                case measure => omega
                case rel =>
                  obtain ⟨v, hv⟩ := HU.out
                  exact ⟨2 * s, d1, by congr 1; omega, by omega, by omega, Nat.le_refl _, S3, Lib.hid (permIn_trans _ _ _ _ _ HP.out (permIn_mono _ _ _ _ _ _ (Nat.zero_le _) (Nat.le_refl _) (by omega) hm.perm)), Lib.hid (blk_allA (by omega) hv HB.out (by omega) hm)⟩
              · have hm2z : ¬ (A : Int) + (s : Int) < (n : Int) := by omega
                clear hds
                go_wp2
                go_roundg (n - 2 * s)
                case measure => omega
                case rel =>
                  obtain ⟨v, hv⟩ := HU.out
                  refine ⟨2 * s, dj, by congr 1; omega, by omega, by omega, Nat.le_refl _, S1, HP, Lib.hid (blk_allA (by omega) hv HB.out (by omega) ⟨permIn_refl _ _ _, ?_⟩)⟩
                  by_cases hAe : A < n
                  · exact blk_atA HB2.out (twice_mul hv) (Nat.le_refl _) hAe (by omega)
                  · exact sorted_none (by omega)
        · have hsnz : ¬ (s : Int) < (n : Int) := by omega
          go_wp2
          go_end0
          exact ⟨rfl, dk2, ⟨HP.out, blk_done HB.out (by omega)⟩, S1.out⟩
end Go.Proofs.Ytdneffnnpjgnbab
