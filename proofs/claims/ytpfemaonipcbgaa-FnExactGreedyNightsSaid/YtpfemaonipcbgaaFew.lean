/- The fewest windows that show all bins: what the program returns. -/
import Derived.Test.YtpfemaonipcbgaaChoose
namespace Go.Proofs.Ytpfemaonipcbgaa
open Go.RowKit

set_option maxHeartbeats 1000000 in
theorem allShown_c (N : Nat) (h : N ≤ 50) (w : World) : Calls Try.prog 47 #[.int .i64 (N : Int)] w (Same (.int .u64 ((2 ^ N - 1 : Nat) : Int)) w) := by
  refine hide_same fun v H => ?_
  have hp : 1 ≤ 2 ^ N := Nat.one_le_two_pow
  have hlt : 2 ^ N < 2 ^ 64 := Nat.pow_lt_pow_right (by omega) (by omega)
  have e1 : IntKind.u64.wrap ((2 : Int) ^ N) = ((2 ^ N : Nat) : Int) := shl2_u (by omega)
  have e2 : IntKind.u64.wrap (((2 ^ N : Nat) : Int) - 1) = ((2 ^ N - 1 : Nat) : Int) := by
    have := wrap_u (2 ^ N - 1) (by omega)
    rw [← this]; congr 1; omega
  have E1 := Lib.hid e1
  have E2 := Lib.hid e2
  clear e1 e2 hp hlt
  go_enter Try.func47, Try.ntmps47
  go_wp2
  go_ret
  refine Same.mk ?_
  rw [← H.out]
  first | (rw [E1.out, E2.out]; rfl) | trace_state
set_option maxHeartbeats 4000000 in
theorem FewestNights_c (e p n : Int) (u : Value) (xs : List (Int × Int)) (w : World) (hu : Rd cel2 w u xs) :
    Calls Try.prog 25 #[.agg #[.int .i64 e, .int .i64 p], u, .int .i64 n] w (RetRow 2 1 (fun v => .tuple #[v, .int .i64 (fewI e p n xs).2]) (fewI e p n xs).1.length (celI.row (fewI e p n xs).1) w) := by
  generalize hR : RetRow _ _ _ _ _ w = R
  have HR := Lib.hid hR
  clear hR
  have HS := Lib.hid (fun w hu => shownEach_c e p n u xs w hu)
  have hok := @codeB_ok e p n xs
  obtain ⟨aa, M, cc, rfl, hs⟩ := hu.sl
  have hcap := hs.le; have hmax := hs.cap
  unfold maxLen at hmax
  have HL := Lib.hid hs.len
  clear hs
  unfold fewI at HR
  unfold eachI at HS
  rw [← HL.out] at HR
  by_cases hc : codeB e p n xs = 0
  rotate_left
  · clear hok
    rw [if_pos hc] at HR HS
    have hc' : (codeB e p n xs != 0) = true := by simp [hc]
    generalize codeB e p n xs = c at *
    clear hc
    go_enter Try.func25, Try.ntmps25
    go_wp2_with (first | (go_at_call 43; refine Calls.mono (HS.out _ (hu.bel ?_)) ?_; (focus (repeat (first | with_reducible exact Bel.refl _ | with_reducible assumption | apply Bel.ext | apply Bel.alloc | apply Bel.drew | exact Bel.refl _))); rintro ee ww ⟨v0, g0, rfl, rfl, hown⟩))
    rw [← HR.out]
    exact RetRow.mk' rfl (by (repeat (first | with_reducible exact Bel.refl _ | with_reducible assumption | apply Bel.ext | apply Bel.alloc | apply Bel.drew | exact Bel.refl _ | refine Bel.set ?_ (by first | (simp; done) | (simp [go_sem]; done) | omega) _)) : Bel _ _) (World.ownsRow_nil _ _ _ _)
  obtain ⟨h1, h2, n1, n2, n3⟩ := hok hc
  rw [if_neg (by simp [hc])] at HR HS
  clear hok hc
  obtain ⟨N, rfl⟩ : ∃ N : Nat, n = (N : Int) := ⟨n.toNat, by omega⟩
  simp only [Int.toNat_natCast] at HR HS
  by_cases hM : 12 < M
  · rw [if_pos hM] at HR
    have hM' : (12 : Int) < M := by omega
    generalize maskOf (allF e p N xs) N = S at *
    go_enter Try.func25, Try.ntmps25
    go_wp2_with (first | (go_at_call 43; refine Calls.mono (HS.out _ (hu.bel ?_)) ?_; (focus (repeat (first | with_reducible exact Bel.refl _ | with_reducible assumption | apply Bel.ext | apply Bel.alloc | apply Bel.drew | exact Bel.refl _))); rintro ee ww ⟨v0, g0, rfl, rfl, hown⟩))
    rw [← HR.out]
    exact RetRow.mk' rfl (by (repeat (first | with_reducible exact Bel.refl _ | with_reducible assumption | apply Bel.ext | apply Bel.alloc | apply Bel.drew | exact Bel.refl _ | refine Bel.set ?_ (by first | (simp; done) | (simp [go_sem]; done) | omega) _)) : Bel _ _) (World.ownsRow_nil _ _ _ _)
  rw [if_neg hM] at HR
  have hM' : ¬ (12 : Int) < M := by omega
  have HA := Lib.hid (fun w => allShown_c N (by omega) w)
  by_cases hS : maskOf (allF e p N xs) N = 2 ^ N - 1
  rotate_left
  · rw [if_pos hS] at HR
    have hne : (((maskOf (allF e p N xs) N : Nat) : Int) != ((2 ^ N - 1 : Nat) : Int)) = true := by simp; omega
    generalize maskOf (allF e p N xs) N = S at *
    generalize 2 ^ N - 1 = T at *
    clear hS
    go_enter Try.func25, Try.ntmps25
    go_wp2_with (first | (go_at_call 43; refine Calls.mono (HS.out _ (hu.bel ?_)) ?_; (focus (repeat (first | with_reducible exact Bel.refl _ | with_reducible assumption | apply Bel.ext | apply Bel.alloc | apply Bel.drew | exact Bel.refl _))); rintro ee ww ⟨v0, g0, rfl, rfl, hown⟩) | (go_at_call 47; refine Calls.mono (HA.out _) ?_; rintro ee ww ⟨rfl, rfl⟩))
    rw [← HR.out]
    exact RetRow.mk' rfl (by (repeat (first | with_reducible exact Bel.refl _ | with_reducible assumption | apply Bel.ext | apply Bel.alloc | apply Bel.drew | exact Bel.refl _ | refine Bel.set ?_ (by first | (simp; done) | (simp [go_sem]; done) | omega) _)) : Bel _ _) (World.ownsRow_nil _ _ _ _)
  rw [if_neg (by simp [hS])] at HR
  have HOA := Lib.hid (orAll_masks e p N xs)
  have HEL := Lib.hid (show (eachL e p N xs).length = M by rw [HL.out]; simp [eachL])
  have H64 := Lib.hid (eachL_lt (e := e) (p := p) (n := (N : Int)) (xs := xs) (by omega))
  have hT64 : 2 ^ N - 1 < 2 ^ 64 := by have : 2 ^ N < 2 ^ 64 := Nat.pow_lt_pow_right (by omega) (by omega); omega
  have HT := Lib.hid hT64
  have hT0 : 2 ^ N - 1 ≠ 0 := by have : 2 ^ 1 ≤ 2 ^ N := Nat.pow_le_pow_right (by omega) (by omega); omega
  simp only [Int.toNat_natCast] at HOA
  rw [hS] at HS HOA
  clear hS hT64
  generalize eachL e p N xs = sets at *
  have hM1 : 1 ≤ M := by
    by_cases c : 1 ≤ M
    · exact c
    · exfalso
      have h0 : sets = [] := List.eq_nil_of_length_eq_zero (by rw [HEL.out]; omega)
      have := HOA.out
      rw [h0] at this
      exact hT0 this.symm
  clear hT0
  generalize 2 ^ N - 1 = T at *
  have hTT : ((T : Int) != T) = false := by simp
  have HW := Lib.hid (comb_whole T sets 0 0 (by rw [HOA.out]; simp))
  go_enter Try.func25, Try.ntmps25
  go_wp2_with (first | (go_at_call 43; refine Calls.mono (HS.out _ (hu.bel ?_)) ?_; (focus (repeat (first | with_reducible exact Bel.refl _ | with_reducible assumption | apply Bel.ext | apply Bel.alloc | apply Bel.drew | exact Bel.refl _))); rintro ee ww ⟨v0, g0, rfl, hww, hown⟩; rw [← hww] at hown; have hwX : Bel w ww := (by rw [hww]; (repeat (first | with_reducible exact Bel.refl _ | with_reducible assumption | apply Bel.ext | apply Bel.alloc | apply Bel.drew | exact Bel.refl _ | refine Bel.set ?_ (by first | (simp; done) | (simp [go_sem]; done) | omega) _))); clear hww) | (go_at_call 47; refine Calls.mono (HA.out _) ?_; rintro ee ww ⟨rfl, rfl⟩))
  have RS : Rd celU ww v0 sets := rd_of_row hown
  have HC : Hid (∀ (q : Nat) (w' : World), q ≤ M → Bel ww w' → Calls Try.prog 48 #[v0, .int .i64 0, .int .i64 (q : Int), .int .u64 0, .int .u64 (T : Int)] w' (RetOpt 2 (comb T q 0 0 sets) w')) :=
    fun q w' hq hw' => choose_c T v0 sets HT.out H64.out (by rw [HEL.out]; omega) q 0 0 w' (Nat.zero_le _) (by omega) (by decide) (RS.bel hw')
  rw [HEL.out] at HW
  clear hown RS
  go_loopw [11] (fun i wr => ∃ q : Nat, 1 ≤ q ∧ q ≤ M ∧ i = .int .i64 q ∧ (∃ g, wr = ext ww g) ∧ Hid (firstC T sets (M - 1) 1 = firstC T sets (M - q) q)) (fun i _ => M - (intOf i).toNat)
  case atStart => exact ⟨1, by omega, hM1, rfl, ext_ex (by (repeat (first | with_reducible exact Bel.refl _ | with_reducible assumption | apply Bel.ext | apply Bel.alloc | apply Bel.drew | exact Bel.refl _ | refine Bel.set ?_ (by first | (simp; done) | (simp [go_sem]; done) | omega) _)) : Bel _ _), Lib.hid rfl⟩
  case round =>
    obtain ⟨q, q1, q2, rfl, ⟨g, rfl⟩, hv⟩ := hrel
    have HQ := Lib.hid (fun w' hw' => HC.out q w' q2 hw')
    have HH := Lib.hid (fun l => @firstC_hit T sets (M - q) q l)
    have HM := Lib.hid (fun d => @firstC_miss T sets d q)
    have HN := Lib.hid (fun (h : q = M) (h2 : comb T q 0 0 sets = none) => show False from by rw [h] at h2; have := HW.out; rw [h2] at this; cases this)
    generalize comb T q 0 0 sets = r at *
    rcases r with _ | l
    · have hqM : q < M := by
        rcases Nat.lt_or_ge q M with c | c
        · exact c
        · exact (HN.out (by omega) rfl).elim
      have HM2 := Lib.hid (HM.out (M - (q + 1)) rfl)
      clear HM HH HN
      go_wp2_with (first | (go_at_call 48; refine Calls.mono (HQ.out _ ?_) ?_; (focus (repeat (first | with_reducible exact Bel.refl _ | with_reducible assumption | apply Bel.ext | apply Bel.alloc | apply Bel.drew | exact Bel.refl _))); rintro ee wz ⟨v1, g1, rfl, rfl, hl1⟩))
      go_roundw
      case rel => exact ⟨q + 1, by omega, by omega, by go_num, ext_ex (by (repeat (first | with_reducible exact Bel.refl _ | with_reducible assumption | apply Bel.ext | apply Bel.alloc | apply Bel.drew | exact Bel.refl _ | refine Bel.set ?_ (by first | (simp; done) | (simp [go_sem]; done) | omega) _)) : Bel _ _), Lib.hid (by rw [hv.out, show M - q = M - (q + 1) + 1 by omega, HM2.out])⟩
      case measure => simp [intOf]; omega
    · have HF := Lib.hid (hv.out.trans (HH.out l rfl))
      clear HM HH HN
      go_wp2_with (first | (go_at_call 48; refine Calls.mono (HQ.out _ ?_) ?_; (focus (repeat (first | with_reducible exact Bel.refl _ | with_reducible assumption | apply Bel.ext | apply Bel.alloc | apply Bel.drew | exact Bel.refl _))); rintro ee wz ⟨v1, g1, rfl, rfl, hl1⟩; obtain ⟨b1, c1, rfl, ho1⟩ := hl1 l rfl; have HO1 := Lib.hid ho1; clear hl1 ho1))
      rw [← HR.out, HF.out]
      refine RetRow.mk' rfl ?_ (own_mono HO1.out ?_)
      · exact Below.trans hwX (Below.mono (by (repeat (first | with_reducible exact Bel.refl _ | with_reducible assumption | apply Bel.ext | apply Bel.alloc | apply Bel.drew | exact Bel.refl _ | refine Bel.set ?_ (by first | (simp; done) | (simp [go_sem]; done) | omega) _)) : Bel ww _) hwX.size)
      · exact Nat.le_trans hwX.size (bel_size (by (repeat (first | with_reducible exact Bel.refl _ | with_reducible assumption | apply Bel.ext | apply Bel.alloc | apply Bel.drew | exact Bel.refl _ | refine Bel.set ?_ (by first | (simp; done) | (simp [go_sem]; done) | omega) _)) : Bel ww _))
end Go.Proofs.Ytpfemaonipcbgaa
