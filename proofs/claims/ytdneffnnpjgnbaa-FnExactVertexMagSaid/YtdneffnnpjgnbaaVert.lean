/- A parabola through three points: what the program's functions on it return. -/
import Derived.Test.YtdneffnnpjgnbaaCurve
import Derived.Test.YtdneffnnpjgnbaaWidePlain
import Derived.Test.YtdneffnnpjgnbaaName
import Derived.Shelf.Bits.Mul64
namespace Go.Proofs.Ytdneffnnpjgnbaa
open Go.RowKit

theorem mul_bd {a b A B : Int} (h : -A ≤ a ∧ a ≤ A) (k : -B ≤ b ∧ b ≤ B) : -(A * B) ≤ a * b ∧ a * b ≤ A * B := by
  have h1 : a.natAbs ≤ A.toNat := by omega
  have h2 : b.natAbs ≤ B.toNat := by omega
  have h3 := Nat.mul_le_mul h1 h2
  rw [← Int.natAbs_mul] at h3
  have h4 : ((A.toNat * B.toNat : Nat) : Int) = A * B := by rw [Int.natCast_mul, Int.toNat_of_nonneg (by omega), Int.toNat_of_nonneg (by omega)]
  omega
def wholeI (n r : Int) : Int := n * r * (r - n)
def bendI (n r u m : Int) : Int := m * n - u * r
def tiltI (n r u m : Int) : Int := u * r * r - m * n * n
/-- a parabola within the bounds -/
structure PB (n r u m : Int) : Prop where
  n1 : 1 ≤ n
  nr : n < r
  r1 : r ≤ 100000
  u0 : -22000 ≤ u
  u1 : u ≤ 22000
  m0 : -22000 ≤ m
  m1 : m ≤ 22000
/-- the products that its functions make, each within an int64 -/
theorem PB.prods {n r u m : Int} (h : PB n r u m) :
    (-2200000000 ≤ m * n ∧ m * n ≤ 2200000000) ∧ (-2200000000 ≤ u * r ∧ u * r ≤ 2200000000) ∧ (-220000000000000 ≤ u * r * r ∧ u * r * r ≤ 220000000000000) ∧ (-220000000000000 ≤ m * n * n ∧ m * n * n ≤ 220000000000000) ∧
      (1 ≤ n * r ∧ n * r ≤ 10000000000) ∧ (1 ≤ n * r * (r - n) ∧ n * r * (r - n) ≤ 1000000000000000) := by
  obtain ⟨n1, nr, r1, u0, u1, m0, m1⟩ := h
  have a := mul_bd (a := m) (b := n) (A := 22000) (B := 100000) (by omega) (by omega)
  have b := mul_bd (a := u) (b := r) (A := 22000) (B := 100000) (by omega) (by omega)
  have c := mul_bd (a := u * r) (b := r) (A := 2200000000) (B := 100000) (by omega) (by omega)
  have d := mul_bd (a := m * n) (b := n) (A := 2200000000) (B := 100000) (by omega) (by omega)
  have e := mul_bd (a := n) (b := r) (A := 100000) (B := 100000) (by omega) (by omega)
  have e1 : 0 < n * r := Int.mul_pos (by omega) (by omega)
  have f := mul_bd (a := n * r) (b := r - n) (A := 10000000000) (B := 100000) (by omega) (by omega)
  have f1 : 0 < n * r * (r - n) := Int.mul_pos e1 (by omega)
  refine ⟨by omega, by omega, by omega, by omega, by omega, by omega⟩
set_option maxHeartbeats 1000000 in
theorem whole_c (n r u m : Int) (h : PB n r u m) (w : World) : Calls Try.prog 57 #[.agg #[.int .i64 n, .int .i64 r, .int .i64 u, .int .i64 m]] w (Ret (.int .i64 (wholeI n r)) w) := by
  refine hide_ret fun v H => ?_
  obtain ⟨a, b, c, d, e, f⟩ := h.prods
  obtain ⟨n1, nr, r1, u0, u1, m0, m1⟩ := h
  unfold wholeI at H
  have e1 : IntKind.i64.wrap (n * r) = n * r := IntWalk.i64_in _ ⟨by omega, by omega⟩
  have e2 : IntKind.i64.wrap (n * r * (r - n)) = n * r * (r - n) := IntWalk.i64_in _ ⟨by omega, by omega⟩
  have e3 : IntKind.i64.wrap (r - n) = r - n := IntWalk.i64_in _ ⟨by omega, by omega⟩
  clear a b c d
  go_enter Try.func57, Try.ntmps57
  go_wp2
  go_ret
  refine Ret.mk ?_ (?_ : Bel _ _)
  · exact H.out
  · (repeat (first | with_reducible exact Bel.refl _ | with_reducible assumption | apply Bel.ext | apply Bel.alloc | apply Bel.drew | exact Bel.refl _ | refine Bel.set ?_ (by first | (simp; done) | (simp [go_sem]; done) | omega) _))
set_option maxHeartbeats 1000000 in
theorem bend_c (n r u m : Int) (h : PB n r u m) (w : World) : Calls Try.prog 53 #[.agg #[.int .i64 n, .int .i64 r, .int .i64 u, .int .i64 m]] w (Ret (.int .i64 (bendI n r u m)) w) := by
  refine hide_ret fun v H => ?_
  obtain ⟨a, b, c, d, e, f⟩ := h.prods
  obtain ⟨n1, nr, r1, u0, u1, m0, m1⟩ := h
  unfold bendI at H
  have e1 : IntKind.i64.wrap (m * n) = m * n := IntWalk.i64_in _ ⟨by omega, by omega⟩
  have e2 : IntKind.i64.wrap (u * r) = u * r := IntWalk.i64_in _ ⟨by omega, by omega⟩
  have e3 : IntKind.i64.wrap (m * n - u * r) = m * n - u * r := IntWalk.i64_in _ ⟨by omega, by omega⟩
  clear c d e f
  go_enter Try.func53, Try.ntmps53
  go_wp2
  go_ret
  refine Ret.mk ?_ (?_ : Bel _ _)
  · exact H.out
  · (repeat (first | with_reducible exact Bel.refl _ | with_reducible assumption | apply Bel.ext | apply Bel.alloc | apply Bel.drew | exact Bel.refl _ | refine Bel.set ?_ (by first | (simp; done) | (simp [go_sem]; done) | omega) _))
set_option maxHeartbeats 1000000 in
theorem tilt_c (n r u m : Int) (h : PB n r u m) (w : World) : Calls Try.prog 55 #[.agg #[.int .i64 n, .int .i64 r, .int .i64 u, .int .i64 m]] w (Ret (.int .i64 (tiltI n r u m)) w) := by
  refine hide_ret fun v H => ?_
  obtain ⟨a, b, c, d, e, f⟩ := h.prods
  obtain ⟨n1, nr, r1, u0, u1, m0, m1⟩ := h
  unfold tiltI at H
  have e1 : IntKind.i64.wrap (u * r) = u * r := IntWalk.i64_in _ ⟨by omega, by omega⟩
  have e2 : IntKind.i64.wrap (u * r * r) = u * r * r := IntWalk.i64_in _ ⟨by omega, by omega⟩
  have e3 : IntKind.i64.wrap (m * n) = m * n := IntWalk.i64_in _ ⟨by omega, by omega⟩
  have e4 : IntKind.i64.wrap (m * n * n) = m * n * n := IntWalk.i64_in _ ⟨by omega, by omega⟩
  have e5 : IntKind.i64.wrap (u * r * r - m * n * n) = u * r * r - m * n * n := IntWalk.i64_in _ ⟨by omega, by omega⟩
  clear e f
  go_enter Try.func55, Try.ntmps55
  go_wp2
  go_ret
  refine Ret.mk ?_ (?_ : Bel _ _)
  · exact H.out
  · (repeat (first | with_reducible exact Bel.refl _ | with_reducible assumption | apply Bel.ext | apply Bel.alloc | apply Bel.drew | exact Bel.refl _ | refine Bel.set ?_ (by first | (simp; done) | (simp [go_sem]; done) | omega) _))
set_option maxHeartbeats 2000000 in
theorem Mul64_c (x y : Nat) (hx : x < 18446744073709551616) (hy : y < 18446744073709551616) (w : World) :
    Calls Try.prog 56 #[.int .u64 x, .int .u64 y] w (Same (.tuple #[.int .u64 ((x * y / 18446744073709551616 : Nat) : Int), .int .u64 ((x * y % 18446744073709551616 : Nat) : Int)]) w) := by
  obtain ⟨bd, bt, bw, hhi⟩ := Lib.mul64_hi x y hx hy
  have ba := Lib.half_mul_le (a := x / 4294967296) (b := y / 4294967296) (by omega) (by omega)
  have bb := Lib.half_mul_le (a := x / 4294967296) (b := y % 4294967296) (by omega) (by omega)
  have bc := Lib.half_mul_le (a := x % 4294967296) (b := y / 4294967296) (by omega) (by omega)
  have ba' : x / 4294967296 * (y / 4294967296) < 18446744073709551616 := by omega
  have bb' : x / 4294967296 * (y % 4294967296) < 18446744073709551616 := by omega
  have bc' : x % 4294967296 * (y / 4294967296) < 18446744073709551616 := by omega
  have bh1 : x / 4294967296 * (y / 4294967296) + (x / 4294967296 * (y % 4294967296) + x % 4294967296 * (y % 4294967296) / 4294967296) / 4294967296 < 18446744073709551616 := by omega
  have bh : x / 4294967296 * (y / 4294967296) + (x / 4294967296 * (y % 4294967296) + x % 4294967296 * (y % 4294967296) / 4294967296) / 4294967296 + ((x / 4294967296 * (y % 4294967296) + x % 4294967296 * (y % 4294967296) / 4294967296) % 4294967296 + x % 4294967296 * (y / 4294967296)) / 4294967296 < 18446744073709551616 := by omega
  go_enter Try.func56, Try.ntmps56
  go_wp2
  simp only [Mul64.maskN x hx, Mul64.maskN y hy, Mul64.divN, Mul64.mulN, Mul64.addN, Mul64.wrapN _ bd, Mul64.wrapN _ bb', Mul64.wrapN _ bt, Mul64.maskN _ bt, Mul64.wrapN _ bc', Mul64.wrapN _ bw, Mul64.wrapN _ ba', Mul64.wrapN _ bh1, Mul64.wrapN _ bh, Mul64.wrapM (x * y)]
  rw [hhi]
  go_ret2
  exact ⟨rfl, rfl⟩
end Go.Proofs.Ytdneffnnpjgnbaa
