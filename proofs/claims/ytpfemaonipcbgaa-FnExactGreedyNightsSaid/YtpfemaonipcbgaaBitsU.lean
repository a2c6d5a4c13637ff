/- Sets of numbers as unsigned words: what the machine's operations on them are; bins that are shown. -/
import Derived.Test.YtpfemaonipcbgaaBinPlain
import Derived.Laws.Shifts
namespace Go.Proofs.Ytpfemaonipcbgaa
open Go.RowKit

theorem wrap_u (n : Nat) (h : n < 2 ^ 64) : IntKind.u64.wrap (n : Int) = (n : Int) := by
  rw [IntKind.wrap_u64]
  have e : (2 : Nat) ^ 64 = 18446744073709551616 := by decide
  rw [e] at h
  omega
theorem ofInt_nat (n : Nat) : BitVec.ofInt 64 (n : Int) = BitVec.ofNat 64 n := by
  apply BitVec.eq_of_toNat_eq
  simp
theorem bits_or_u {a b : Nat} (ha : a < 2 ^ 64) (hb : b < 2 ^ 64) : bits .or .u64 (a : Int) (b : Int) = ((a ||| b : Nat) : Int) := by
  have e : (BitVec.ofInt 64 (a : Int) ||| BitVec.ofInt 64 (b : Int)).toNat = a ||| b := by
    rw [ofInt_nat, ofInt_nat, BitVec.toNat_or, BitVec.toNat_ofNat, BitVec.toNat_ofNat, Nat.mod_eq_of_lt ha, Nat.mod_eq_of_lt hb]
  show IntKind.u64.wrap (((BitVec.ofInt 64 (a : Int) ||| BitVec.ofInt 64 (b : Int)).toNat : Nat) : Int) = _
  rw [e, wrap_u _ (Nat.or_lt_two_pow ha hb)]
theorem bits_and_u {a b : Nat} (ha : a < 2 ^ 64) (hb : b < 2 ^ 64) : bits .and .u64 (a : Int) (b : Int) = ((a &&& b : Nat) : Int) := by
  have e : (BitVec.ofInt 64 (a : Int) &&& BitVec.ofInt 64 (b : Int)).toNat = a &&& b := by
    rw [ofInt_nat, ofInt_nat, BitVec.toNat_and, BitVec.toNat_ofNat, BitVec.toNat_ofNat, Nat.mod_eq_of_lt ha, Nat.mod_eq_of_lt hb]
  show IntKind.u64.wrap (((BitVec.ofInt 64 (a : Int) &&& BitVec.ofInt 64 (b : Int)).toNat : Nat) : Int) = _
  rw [e, wrap_u _ (Nat.and_lt_two_pow _ hb)]
theorem shl_u {k : Nat} (h : k < 64) : IntKind.u64.wrap (1 * 2 ^ min (k : Int).toNat IntKind.u64.bits) = ((2 ^ k : Nat) : Int) := by
  rw [show min (k : Int).toNat IntKind.u64.bits = k from by simp [IntKind.bits]; omega, Int.one_mul]
  have := wrap_u (2 ^ k) (Nat.pow_lt_pow_right (by omega) h)
  rw [← this]; congr 1
theorem shl2_u {k : Nat} (h : k < 64) : IntKind.u64.wrap ((2 : Int) ^ k) = ((2 ^ k : Nat) : Int) := by
  have := wrap_u (2 ^ k) (Nat.pow_lt_pow_right (by omega) h)
  rw [← this]; congr 1
theorem maskOf_put (f : Nat → Bool) {k : Nat} (hk : k < 50) (h : f k = true) : bits .or .u64 ((maskOf f k : Nat) : Int) (IntKind.u64.wrap ((2 : Int) ^ k)) = ((maskOf f (k + 1) : Nat) : Int) := by
  rw [shl2_u (by omega), bits_or_u (Nat.lt_of_lt_of_le (maskOf_lt f k) (Nat.pow_le_pow_right (by omega) (by omega))) (Nat.pow_lt_pow_right (by omega) (by omega)), maskOf_succ_or, h, if_pos rfl]
theorem maskOf_lt64 (f : Nat → Bool) {n : Nat} (h : n ≤ 64) : maskOf f n < 2 ^ 64 := Nat.lt_of_lt_of_le (maskOf_lt f n) (Nat.pow_le_pow_right (by omega) h)
/-- bin k is shown in a window -/
def shB (e p n : Int) (w : Int × Int) (k : Nat) : Bool := decide (binWait p n (phaseI e p w.1) k ≤ w.2 - w.1)
theorem shB_spec {e p n : Int} {w : Int × Int} {k : Nat} (hn : 0 < n) (hp : n ≤ p) (hk : (k : Int) < n) (hw : w.1 ≤ w.2) :
    shB e p n w k = binSpec p n (phaseI e p w.1) (phaseI e p w.2) (w.2 - w.1) k := by
  unfold shB
  have h0 : 0 ≤ phaseI e p w.1 := Int.emod_nonneg _ (by omega)
  have h1 : phaseI e p w.1 < p := Int.emod_lt_of_pos _ (by omega)
  rw [bin_eq hn hp h0 h1 (by omega) (by omega) hk]
  congr 1
  unfold phaseI
  rw [Int.emod_add_emod]
  congr 1
  omega
theorem mul_bd {k p a b : Int} (h1 : 0 ≤ k) (h2 : k ≤ a) (h3 : 0 ≤ p) (h4 : p ≤ b) : 0 ≤ k * p ∧ k * p ≤ a * b :=
  ⟨Int.mul_nonneg h1 h3, Int.mul_le_mul h2 h4 h3 (by omega)⟩
end Go.Proofs.Ytpfemaonipcbgaa
