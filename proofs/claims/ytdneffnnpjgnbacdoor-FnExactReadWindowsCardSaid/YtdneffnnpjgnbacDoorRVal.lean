/- Reading digits, both ways; no program in sight. -/
import Derived.Test.YtdneffnnpjgnbacDoorRPars
namespace Go.Proofs.YtdneffnnpjgnbacDoor
open Go.RowKit

theorem pow_nat {a k : Nat} (h : a < 10 ^ k) (hk : k ≤ 17) : a < 100000000000000000 := by
  have := Nat.pow_le_pow_right (n := 10) (by omega) hk
  have e : (10 : Nat) ^ 17 = 100000000000000000 := by decide
  rw [e] at this
  generalize 10 ^ k = q at *
  omega
theorem pow_nat18 {a k : Nat} (h : a < 10 ^ k) (hk : k ≤ 18) : a < 1000000000000000000 := by
  have := Nat.pow_le_pow_right (n := 10) (by omega) hk
  have e : (10 : Nat) ^ 18 = 1000000000000000000 := by decide
  rw [e] at this
  generalize 10 ^ k = q at *
  omega
theorem pow_nextN {a d k : Nat} (h : a < 10 ^ k) (hd : d ≤ 9) : a * 10 + d < 10 ^ (k + 1) := by
  rw [Nat.pow_succ]
  generalize 10 ^ k = q at *
  omega
theorem valM (M : Nat) (hM : 1000000000000000000 ≤ M) : ∀ (r : List UInt8) (k a : Nat), a < 10 ^ k → k + r.length ≤ 18 →
    (∃ u : Nat, valR r (a : Int) = ((u : Int), true) ∧ Lib.parseUintM M a r = .ok u ∧ u < 1000000000000000000) ∨ (valR r (a : Int) = (0, false) ∧ Lib.parseUintM M a r = .syntax)
  | [], k, a, h, hk => .inl ⟨a, rfl, rfl, pow_nat18 h (by simpa using hk)⟩
  | c :: r, k, a, h, hk => by
    rw [List.length_cons] at hk
    have ha := pow_nat h (by omega)
    by_cases hc : 48 ≤ c.toNat ∧ c.toNat ≤ 57
    · have hd : digI (c.toNat : Int) = true := by unfold digI; simp; omega
      have ih := valM M hM r (k + 1) (a * 10 + (c.toNat - 48)) (pow_nextN h (by omega)) (by omega)
      rw [valR_yes hd, show (10 * (a : Int) + ((c.toNat : Int) - 48)) = ((a * 10 + (c.toNat - 48) : Nat) : Int) by omega]
      rw [Lib.parseUintM, if_pos hc, if_neg (by omega), if_neg (by omega)]
      exact ih
    · have hd : digI (c.toNat : Int) = false := by unfold digI; simp; omega
      refine .inr ⟨valR_no hd, ?_⟩
      rw [Lib.parseUintM, if_neg hc]
end Go.Proofs.YtdneffnnpjgnbacDoor
