/- The count of a word's bits: what math/bits.OnesCount64 returns. -/
import Derived.Test.YtpfemaonipcbgaaPopPlain
import Derived.Test.YtpfemaonipcbgaaBins
namespace Go.Proofs.Ytpfemaonipcbgaa
open Go.RowKit

def bsN (x : Nat) : Nat → Nat
  | 0 => 0
  | n + 1 => bsN x n + x / 2 ^ n % 2
theorem bs_byte (x k : Nat) : bsN x (k + 8) = bsN x k + pop8 (x / 2 ^ k % 256) := by
  have d : ∀ i, x / 2 ^ (k + i) = x / 2 ^ k / 2 ^ i := fun i => by rw [Nat.pow_add, Nat.div_div_eq_div_mul]
  have e : bsN x (k + 8) = bsN x k + x / 2 ^ (k + 0) % 2 + x / 2 ^ (k + 1) % 2 + x / 2 ^ (k + 2) % 2 + x / 2 ^ (k + 3) % 2 + x / 2 ^ (k + 4) % 2 + x / 2 ^ (k + 5) % 2 + x / 2 ^ (k + 6) % 2 + x / 2 ^ (k + 7) % 2 := rfl
  rw [e, d 0, d 1, d 2, d 3, d 4, d 5, d 6, d 7]
  generalize x / 2 ^ k = y
  unfold pop8
  simp only [Nat.pow_zero, Nat.div_one, show (2 : Nat) ^ 1 = 2 from rfl, show (2 : Nat) ^ 2 = 4 from rfl, show (2 : Nat) ^ 3 = 8 from rfl, show (2 : Nat) ^ 4 = 16 from rfl, show (2 : Nat) ^ 5 = 32 from rfl, show (2 : Nat) ^ 6 = 64 from rfl, show (2 : Nat) ^ 7 = 128 from rfl]
  omega
theorem bs_64 (x : Nat) : bsN x 64 = pop8 (x % 256) + pop8 (x / 256 % 256) + pop8 (x / 65536 % 256) + pop8 (x / 16777216 % 256) + pop8 (x / 4294967296 % 256) + pop8 (x / 1099511627776 % 256) + pop8 (x / 281474976710656 % 256) + pop8 (x / 72057594037927936 % 256) := by
  rw [show (64 : Nat) = 56 + 8 from rfl, bs_byte, show (56 : Nat) = 48 + 8 from rfl, bs_byte, show (48 : Nat) = 40 + 8 from rfl, bs_byte, show (40 : Nat) = 32 + 8 from rfl, bs_byte, show (32 : Nat) = 24 + 8 from rfl, bs_byte, show (24 : Nat) = 16 + 8 from rfl, bs_byte, show (16 : Nat) = 8 + 8 from rfl, bs_byte, show (8 : Nat) = 0 + 8 from rfl, bs_byte]
  simp only [bsN, Nat.zero_add, Nat.pow_zero, Nat.div_one]
theorem pop_eq {x : Nat} (h : x < 2 ^ 64) : sumF (sumE (sumD (sZ x))) &&& 127 = bsN x 64 := by
  rw [show (127 : Nat) = 2 ^ 7 - 1 from rfl, Nat.and_two_pow_sub_one_eq_mod, sZ_eq h, bs_64]
  exact sums_eq (pop8_le _) (pop8_le _) (pop8_le _) (pop8_le _) (pop8_le _) (pop8_le _) (pop8_le _) (pop8_le _)
theorem bs_mask (f : Nat → Bool) (N : Nat) : ∀ n, n ≤ N → bsN (maskOf f N) n = (idxL f n).length
  | 0, _ => rfl
  | n + 1, h => by
    rw [bsN, bs_mask f N n (by omega)]
    have ht := maskOf_test f N n
    rw [Nat.testBit_eq_decide_div_mod_eq, show decide (n < N) = true by simp; omega, Bool.true_and] at ht
    rcases hf : f n with _ | _
    · rw [idxL_neg hf]; rw [hf] at ht; simp at ht; omega
    · rw [idxL_pos hf]; rw [hf] at ht; simp at ht; simp; omega
theorem bs_mask_more (f : Nat → Bool) (N : Nat) : ∀ d, bsN (maskOf f N) (N + d) = (idxL f N).length
  | 0 => bs_mask f N N (Nat.le_refl _)
  | d + 1 => by
    rw [← Nat.add_assoc, bsN, bs_mask_more f N d]
    have ht := maskOf_test f N (N + d)
    rw [Nat.testBit_eq_decide_div_mod_eq, show decide (N + d < N) = false by simp, Bool.false_and] at ht
    simp at ht; omega
theorem pop_mask (f : Nat → Bool) {N : Nat} (h : N ≤ 64) : bsN (maskOf f N) 64 = (idxL f N).length := by
  have := bs_mask_more f N (64 - N)
  rwa [show N + (64 - N) = 64 by omega] at this
theorem sA_lt (x : Nat) : sA 6148914691236517205 x ≤ 12297829382473034410 := by
  have h1 : (x >>> 1) &&& 6148914691236517205 ≤ 6148914691236517205 := Nat.and_le_right
  have h2 : x &&& 6148914691236517205 ≤ 6148914691236517205 := Nat.and_le_right
  unfold sA; omega
theorem sB_lt (x : Nat) : sB 3689348814741910323 x ≤ 7378697629483820646 := by
  have h1 : (x >>> 2) &&& 3689348814741910323 ≤ 3689348814741910323 := Nat.and_le_right
  have h2 : x &&& 3689348814741910323 ≤ 3689348814741910323 := Nat.and_le_right
  unfold sB; omega
theorem sC_lt (x : Nat) : sC 1085102592571150095 x ≤ 1085102592571150095 := Nat.and_le_right
theorem wA {x : Nat} (h : x < 2 ^ 64) : IntKind.u64.wrap (bits .and .u64 ((x : Int) / 2) 6148914691236517205 + bits .and .u64 (x : Int) 6148914691236517205) = ((sA 6148914691236517205 x : Nat) : Int) := by
  have e : (x : Int) / (2 : Int) = ((x >>> 1 : Nat) : Int) := by rw [Nat.shiftRight_eq_div_pow]; omega
  have e1 := bits_and_u (a := x >>> 1) (b := 6148914691236517205) (by rw [Nat.shiftRight_eq_div_pow]; omega) (by omega)
  have e2 := bits_and_u (a := x) (b := 6148914691236517205) h (by omega)
  have hl := sA_lt x
  have := wrap_u (sA 6148914691236517205 x) (by omega)
  rw [e, show (6148914691236517205 : Int) = ((6148914691236517205 : Nat) : Int) from rfl, e1, e2, ← Int.natCast_add]
  exact this
theorem wB {x : Nat} (h : x < 2 ^ 64) : IntKind.u64.wrap (bits .and .u64 ((x : Int) / 4) 3689348814741910323 + bits .and .u64 (x : Int) 3689348814741910323) = ((sB 3689348814741910323 x : Nat) : Int) := by
  have e : (x : Int) / (4 : Int) = ((x >>> 2 : Nat) : Int) := by rw [Nat.shiftRight_eq_div_pow]; omega
  have e1 := bits_and_u (a := x >>> 2) (b := 3689348814741910323) (by rw [Nat.shiftRight_eq_div_pow]; omega) (by omega)
  have e2 := bits_and_u (a := x) (b := 3689348814741910323) h (by omega)
  have hl := sB_lt x
  have := wrap_u (sB 3689348814741910323 x) (by omega)
  rw [e, show (3689348814741910323 : Int) = ((3689348814741910323 : Nat) : Int) from rfl, e1, e2, ← Int.natCast_add]
  exact this
theorem wC {x : Nat} (h : x ≤ 7378697629483820646) : bits .and .u64 (IntKind.u64.wrap ((x : Int) / 16 + x)) 1085102592571150095 = ((sC 1085102592571150095 x : Nat) : Int) := by
  have e : (x : Int) / (16 : Int) + (x : Int) = ((x >>> 4 + x : Nat) : Int) := by rw [Nat.shiftRight_eq_div_pow]; omega
  have hb : x >>> 4 + x < 2 ^ 64 := by rw [Nat.shiftRight_eq_div_pow]; omega
  rw [e, wrap_u _ hb, show (1085102592571150095 : Int) = ((1085102592571150095 : Nat) : Int) from rfl, bits_and_u hb (by omega)]
  rfl
theorem wD {x : Nat} (h : x ≤ 1085102592571150095) : IntKind.u64.wrap ((x : Int) + (x : Int) / 256) = ((sumD x : Nat) : Int) ∧ sumD x ≤ 1090000000000000000 := by
  have hb : sumD x ≤ 1090000000000000000 := by unfold sumD; rw [Nat.shiftRight_eq_div_pow]; omega
  have := wrap_u (sumD x) (by omega)
  refine ⟨?_, hb⟩
  rw [← this]; congr 1; unfold sumD; rw [Nat.shiftRight_eq_div_pow]; omega
theorem wE {x : Nat} (h : x ≤ 1090000000000000000) : IntKind.u64.wrap ((x : Int) + (x : Int) / 65536) = ((sumE x : Nat) : Int) ∧ sumE x ≤ 1091000000000000000 := by
  have hb : sumE x ≤ 1091000000000000000 := by unfold sumE; rw [Nat.shiftRight_eq_div_pow]; omega
  have := wrap_u (sumE x) (by omega)
  refine ⟨?_, hb⟩
  rw [← this]; congr 1; unfold sumE; rw [Nat.shiftRight_eq_div_pow]; omega
theorem wF {x : Nat} (h : x ≤ 1091000000000000000) : IntKind.u64.wrap ((x : Int) + (x : Int) / 4294967296) = ((sumF x : Nat) : Int) ∧ sumF x ≤ 1092000000000000000 := by
  have hb : sumF x ≤ 1092000000000000000 := by unfold sumF; rw [Nat.shiftRight_eq_div_pow]; omega
  have := wrap_u (sumF x) (by omega)
  refine ⟨?_, hb⟩
  rw [← this]; congr 1; unfold sumF; rw [Nat.shiftRight_eq_div_pow]; omega
theorem and_i {a b : Nat} (ha : a < 2 ^ 63) (hb : b < 2 ^ 63) : bits .and .i64 (a : Int) (b : Int) = ((a &&& b : Nat) : Int) := by
  have ha' : a < 2 ^ 64 := Nat.lt_trans ha (by omega)
  have hb' : b < 2 ^ 64 := Nat.lt_trans hb (by omega)
  have e : (BitVec.ofInt 64 (a : Int) &&& BitVec.ofInt 64 (b : Int)).toNat = a &&& b := by
    rw [ofInt_nat, ofInt_nat, BitVec.toNat_and, BitVec.toNat_ofNat, BitVec.toNat_ofNat, Nat.mod_eq_of_lt ha', Nat.mod_eq_of_lt hb']
  show IntKind.i64.wrap (((BitVec.ofInt 64 (a : Int) &&& BitVec.ofInt 64 (b : Int)).toNat : Nat) : Int) = _
  have h := Nat.and_lt_two_pow a hb
  rw [e, IntWalk.i64_in _ (by omega)]
set_option maxHeartbeats 1000000 in
theorem OnesCount64_c (x : Nat) (h : x < 2 ^ 64) (w : World) : Calls Try.prog 51 #[.int .u64 (x : Int)] w (Same (.int .i64 (bsN x 64 : Nat)) w) := by
  refine hide_same fun v H => ?_
  rw [← pop_eq h] at H
  have a1 := wA h
  unfold sZ at H
  have l1 := sA_lt x
  generalize sA 6148914691236517205 x = x1 at *
  have a2 := wB (x := x1) (by omega)
  have l2 := sB_lt x1
  generalize sB 3689348814741910323 x1 = x2 at *
  have a3 := wC l2
  have b3 := a3
  rw [IntKind.wrap_u64, Int.emod_eq_of_lt (by omega) (by omega)] at b3
  have l3 := sC_lt x2
  generalize sC 1085102592571150095 x2 = x3 at *
  obtain ⟨a4, l4⟩ := wD l3
  have b4 := a4
  rw [IntKind.wrap_u64, Int.emod_eq_of_lt (by omega) (by omega)] at b4
  generalize sumD x3 = x4 at *
  obtain ⟨a5, l5⟩ := wE l4
  have b5 := a5
  rw [IntKind.wrap_u64, Int.emod_eq_of_lt (by omega) (by omega)] at b5
  generalize sumE x4 = x5 at *
  obtain ⟨a6, l6⟩ := wF l5
  have b6 := a6
  rw [IntKind.wrap_u64, Int.emod_eq_of_lt (by omega) (by omega)] at b6
  generalize sumF x5 = x6 at *
  have a7 : bits .and .i64 (x6 : Int) 127 = ((x6 &&& 127 : Nat) : Int) := and_i (b := 127) (by omega) (by omega)
  generalize x6 &&& 127 = r at *
  go_enter Try.func51, Try.ntmps51
  go_wp2
  go_ret
  refine Same.mk ?_
  rw [← H.out]
  first | (simp [go_sem, *]; done) | trace_state
end Go.Proofs.Ytpfemaonipcbgaa
