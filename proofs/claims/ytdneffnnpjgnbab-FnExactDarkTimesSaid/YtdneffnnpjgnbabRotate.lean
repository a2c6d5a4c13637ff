/- The library's stable sort at windows: two ranges turned; told over any program that holds the bodies. -/
import Derived.Test.YtdneffnnpjgnbabSwapR
namespace Go.Proofs.Ytdneffnnpjgnbab
open Go.RowKit Go.Lib Go.Sort Go.Shelf
variable {P : Program} {α : Type} [Inhabited α]

set_option maxHeartbeats 4000000 in
set_option maxRecDepth 1000000 in
theorem rotate_g {k : Nat} (T : TyW P k) (hF : P.funcs[49]? = some Try.f49) (hF1 : P.funcs[50]? = some Try.f50)
    (enc : α → List Value) (g : Nat) (cb : Array Value) (blk off cap a m b : Nat) (d0 d : Array α) (w0 w : World)
    (R : RowK enc k w0 blk off d0) (hs : d0.size = d.size) (S : SWK enc k w0 blk off d w) (ham : a < m) (hmb : m < b) (h2 : b ≤ d.size) (hsz : d.size < 4611686018427387904) :
    Calls P 49 #[.slice (some ⟨blk, off, none⟩) d.size cap, .int .i64 a, .int .i64 m, .int .i64 b, .func (.func g) #[] cb] w fun e w' => e = .returned (.tuple #[]) ∧ ∃ d', Rot a m b d d' ∧ SWK enc k w0 blk off d' w' := by
  have T0 : Hid (TyW P k) := T
  obtain ⟨mixed, t0, a0, z0, v0, t3, a3, z3, v3, t4, a4, z4, v4, tS, aS, zS, vS, tF, aF, zF, vF, tU, aU, zU, vU, aE, zE⟩ := T
  have S0 : Aside (SWK enc k w0 blk off d w) := S
  clear S
  have e1 : ∀ args w, (callFunc 50 args).run P w = .ok (.enter 50 args) w := enters_of hF1 (by kernel_rfl) rfl
  have ei : (m : Int) - (a : Int) = ((m - a : Nat) : Int) := by omega
  have ej : (b : Int) - (m : Int) = ((b - m : Nat) : Int) := by omega
  go_enter hF, Try.ntmps49
  go_wp2
  go_loopg [10, 11] (b - a) (fun kx s10 s11 wr => ∃ (i j : Nat) (dk : Array α), s10 = .int .i64 i ∧ s11 = .int .i64 j ∧ 1 ≤ i ∧ 1 ≤ j ∧ i + a ≤ m ∧ m + j ≤ b ∧ i + j ≤ kx ∧ dk.size = d.size ∧ Aside (SWK enc k w0 blk off dk wr) ∧
    Hid (∀ d', Rot (m - i) m (m + j) dk d' → Rot a m b d d'))
  case atStart => exact ⟨m - a, b - m, d, rfl, rfl, by omega, by omega, by omega, by omega, by omega, rfl, S0, (show Hid _ from fun d' h => by rw [show m - (m - a) = a by omega, show m + (b - m) = b by omega] at h; exact h)⟩
  case round =>
    clear S0 ei ej
    obtain ⟨i, j, dk, rfl, rfl, hi, hj, hia, hjb, hkx, hds, S1, H⟩ := hrel
    have emi : ((m - i : Nat) : Int) = (m : Int) - (i : Int) := by omega
    rcases Nat.lt_trichotomy i j with hij | hij | hij
    · have hne : ¬ (i : Int) = (j : Int) := by omega
      have hgt : ¬ (j : Int) < (i : Int) := by omega
      have emj : ((m + j - i : Nat) : Int) = (m : Int) + (j : Int) - (i : Int) := by omega
      have hcall := swapRange_g T0.out hF1 enc g cb blk off cap (m - i) (m + j - i) i d0 dk w0 wr R (by omega) S1.out (by omega) (by omega) (by omega)
      rw [hds, emi, emj] at hcall
      clear S1
      go_wp2_with (go_at_fn 50; refine hcall.mono ?_; rintro e w1 ⟨rfl, S3⟩)
      go_roundg j
      case measure => omega
      case rel =>
        refine ⟨i, j - i, swpR dk (m - i) (m + j - i) i, rfl, by congr 1; omega, hi, by omega, hia, by omega, by omega, by rw [swpR_size]; exact hds, S3, (show Hid _ from fun d' h => H.out d' (rot_right (by omega) (by omega) (by omega) (by omega) ?_))⟩
        rw [show m - (m - i) = i by omega, show m + j - i = m + (j - i) by omega]
        rw [show m + j - i = m + (j - i) by omega] at h
        exact h
    · subst hij
      clear hkx
      have hcall := swapRange_g T0.out hF1 enc g cb blk off cap (m - i) m i d0 dk w0 wr R (by omega) S1.out (by omega) (by omega) (by omega)
      rw [hds, emi] at hcall
      clear S1
      go_wp2_with (go_at_fn 50; refine hcall.mono ?_; rintro e w1 ⟨rfl, S3⟩)
      go_end0
      refine ⟨rfl, _, H.out _ ?_, S3⟩
      have := rot_eq dk (a := m - i) (m := m) (b := m + i) (by omega) (by omega) (by omega) (by omega)
      rw [show m + i - m = i by omega] at this
      exact this
    · have hne : ¬ (i : Int) = (j : Int) := by omega
      have hgt : (j : Int) < (i : Int) := by omega
      have hcall := swapRange_g T0.out hF1 enc g cb blk off cap (m - i) m j d0 dk w0 wr R (by omega) S1.out (by omega) (by omega) (by omega)
      rw [hds, emi] at hcall
      clear S1
      go_wp2_with (go_at_fn 50; refine hcall.mono ?_; rintro e w1 ⟨rfl, S3⟩)
      go_roundg i
      case measure => omega
      case rel =>
        refine ⟨i - j, j, swpR dk (m - i) m j, by congr 1; omega, rfl, by omega, hj, by omega, hjb, by omega, by rw [swpR_size]; exact hds, S3, (show Hid _ from fun d' h => H.out d' (rot_left (by omega) (by omega) (by omega) (by omega) ?_))⟩
        rw [show m + j - m = j by omega, show m - i + j = m - (i - j) by omega]
        exact h
end Go.Proofs.Ytdneffnnpjgnbab
