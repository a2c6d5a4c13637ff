/- Decimal numerals read back: the reference's 'l01Number'. -/
import Derived.Test.YtdneffnnpjgnbacDoorRNum
namespace Go.Proofs.YtdneffnnpjgnbacDoor
open Go.RowKit

def digI (n : Int) : Bool := decide (48 ≤ n) && decide (n ≤ 57)
theorem digI_yes {n : Int} (h : digI n = true) : 48 ≤ n ∧ n ≤ 57 := by unfold digI at h; simpa using h
/-- the value of digits, behind a value read so far; or failure -/
def valR : List UInt8 → Int → Int × Bool
  | [], a => (a, true)
  | c :: r, a => if digI (c.toNat : Int) then valR r (10 * a + ((c.toNat : Int) - 48)) else (0, false)
theorem valR_yes {c : UInt8} {r : List UInt8} {a : Int} (h : digI (c.toNat : Int) = true) : valR (c :: r) a = valR r (10 * a + ((c.toNat : Int) - 48)) := by rw [valR, if_pos h]
theorem valR_no {c : UInt8} {r : List UInt8} {a : Int} (h : digI (c.toNat : Int) = false) : valR (c :: r) a = (0, false) := by rw [valR, if_neg (by rw [h]; decide)]
theorem pow_small {a : Int} {k : Nat} (h : a < ((10 ^ k : Nat) : Int)) (hk : k ≤ 18) : a < 1000000000000000000 := by
  have := Nat.pow_le_pow_right (n := 10) (by omega) hk
  have e : (10 : Nat) ^ 18 = 1000000000000000000 := by decide
  rw [e] at this
  generalize 10 ^ k = q at *
  omega
theorem pow_next {a c : Int} {k : Nat} (h : a < ((10 ^ k : Nat) : Int)) (hc : c ≤ 57) : 10 * a + (c - 48) < ((10 ^ (k + 1) : Nat) : Int) := by
  rw [Nat.pow_succ]
  generalize 10 ^ k = q at *
  omega
def endR (l : List UInt8) (n : Int) : Int × Bool := if Lib.itoa n = l then (n, true) else (0, false)
def numR (l : List UInt8) : Int × Bool :=
  if 1 ≤ (trimL l).length ∧ (trimL l).length ≤ 18 then
    if (valR (trimL l) 0).2 then endR l (if dashB l then -(valR (trimL l) 0).1 else (valR (trimL l) 0).1) else (0, false)
  else (0, false)
set_option maxHeartbeats 400000 in
theorem digI_c (n : Int) (w : World) : Calls Tryd.prog 57 #[.int .u8 n] w (Same (.bool (digI n)) w) := by
  refine hide_same fun v H => ?_
  go_enter Tryd.func57, Tryd.ntmps57
  go_wp2
  all_goals go_ret
  all_goals refine Same.mk ?_
  all_goals first | exact H.out | (rw [← H.out]; simp_all [digI]; done) | (rw [← H.out]; simp_all [digI]; omega)
theorem num_fin {l : List UInt8} {n : Int} : ((textS (Lib.itoa n)).toList == (textS l).toList) = decide (Lib.itoa n = l) := by
  rw [textS_toList, textS_toList, Bool.eq_iff_iff]; simp
end Go.Proofs.YtdneffnnpjgnbacDoor
