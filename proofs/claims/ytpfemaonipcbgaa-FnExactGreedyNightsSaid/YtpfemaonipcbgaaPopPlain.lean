/- Counting the bits of a word in parallel, in plain numbers; no program in sight. -/
import Derived.Test.YtpfemaonipcbgaaLib
namespace Go.Proofs.Ytpfemaonipcbgaa

theorem and_byte (y b m c : Nat) (hb : b < 256) (hc : c < 256) : (256 * y + b) &&& (256 * m + c) = 256 * (y &&& m) + (b &&& c) := by
  have hbc : b &&& c < 2 ^ 8 := Nat.lt_of_le_of_lt Nat.and_le_left hb
  refine Nat.eq_of_testBit_eq fun i => ?_
  rw [show (256 : Nat) = 2 ^ 8 from rfl, Nat.testBit_and, Nat.testBit_two_pow_mul_add _ hb, Nat.testBit_two_pow_mul_add _ hc, Nat.testBit_two_pow_mul_add _ hbc]
  split <;> rw [Nat.testBit_and]
theorem shr_byte (y b s : Nat) (hs : s ≤ 8) : (256 * y + b) >>> s = 2 ^ (8 - s) * y + b >>> s := by
  rw [Nat.shiftRight_eq_div_pow, Nat.shiftRight_eq_div_pow, show 256 * y + b = b + 2 ^ s * (2 ^ (8 - s) * y) by rw [← Nat.mul_assoc, ← Nat.pow_add, show s + (8 - s) = 8 by omega]; omega, Nat.add_mul_div_left _ _ (Nat.two_pow_pos s)]
  omega
/-- all of a byte's bits -/
def pop8 (b : Nat) : Nat := b % 2 + b / 2 % 2 + b / 4 % 2 + b / 8 % 2 + b / 16 % 2 + b / 32 % 2 + b / 64 % 2 + b / 128 % 2
def sA (m x : Nat) : Nat := ((x >>> 1) &&& m) + (x &&& m)
def sB (m x : Nat) : Nat := ((x >>> 2) &&& m) + (x &&& m)
def sC (m x : Nat) : Nat := ((x >>> 4) + x) &&& m
def valB : List Nat → Nat
  | [] => 0
  | b :: r => 256 * valB r + b
def mskB (c : Nat) : Nat → Nat
  | 0 => 0
  | n + 1 => 256 * mskB c n + c
theorem byteA : ∀ b < 256, ∀ t < 2, ((128 * t + b >>> 1) &&& 85) = (b >>> 1) &&& 85 := by decide +kernel
theorem byteB : ∀ b < 256, ∀ t < 4, ((64 * t + b >>> 2) &&& 51) = (b >>> 2) &&& 51 := by decide +kernel
theorem byteC : ∀ b < 69, ∀ t < 5, ((16 * t + b >>> 4 + b) &&& 15) = (b >>> 4 + b) &&& 15 := by decide +kernel
theorem byteAlt : ∀ b < 256, sA 85 b < 256 := by decide +kernel
theorem byteBlt : ∀ b < 256, sB 51 (sA 85 b) < 69 ∧ sB 51 (sA 85 b) % 16 < 5 := by decide +kernel
theorem bytePop : ∀ b < 256, sC 15 (sB 51 (sA 85 b)) = pop8 b := by decide +kernel
theorem sA_byte (y b m : Nat) (hb : b < 256) : sA (256 * m + 85) (256 * y + b) = 256 * sA m y + sA 85 b := by
  unfold sA
  rw [and_byte y b m 85 hb (by omega), show (256 * y + b) >>> 1 = 256 * (y >>> 1) + (128 * (y % 2) + b >>> 1) by simp only [Nat.shiftRight_eq_div_pow]; omega,
    and_byte _ _ m 85 (by simp only [Nat.shiftRight_eq_div_pow]; omega) (by omega), byteA b hb _ (Nat.mod_lt _ (by omega))]
  omega
theorem sB_byte (y b m : Nat) (hb : b < 256) : sB (256 * m + 51) (256 * y + b) = 256 * sB m y + sB 51 b := by
  unfold sB
  rw [and_byte y b m 51 hb (by omega), show (256 * y + b) >>> 2 = 256 * (y >>> 2) + (64 * (y % 4) + b >>> 2) by simp only [Nat.shiftRight_eq_div_pow]; omega,
    and_byte _ _ m 51 (by simp only [Nat.shiftRight_eq_div_pow]; omega) (by omega), byteB b hb _ (Nat.mod_lt _ (by omega))]
  omega
theorem sC_byte (y b m : Nat) (hb : b < 69) (hy : y % 16 < 5) : sC (256 * m + 15) (256 * y + b) = 256 * sC m y + sC 15 b := by
  unfold sC
  rw [show (256 * y + b) >>> 4 + (256 * y + b) = 256 * (y >>> 4 + y) + (16 * (y % 16) + b >>> 4 + b) by simp only [Nat.shiftRight_eq_div_pow]; omega,
    and_byte _ _ m 15 (by simp only [Nat.shiftRight_eq_div_pow]; omega) (by omega), byteC b hb _ hy]
theorem valB_A : ∀ (bs : List Nat), (∀ b ∈ bs, b < 256) → sA (mskB 85 bs.length) (valB bs) = valB (bs.map (sA 85))
  | [], _ => rfl
  | b :: r, h => by
    have ih := valB_A r fun x hx => h x (List.mem_cons_of_mem _ hx)
    rw [List.length_cons, mskB, valB, sA_byte _ _ _ (h b (List.mem_cons_self ..)), ih]; rfl
theorem valB_B : ∀ (bs : List Nat), (∀ b ∈ bs, b < 256) → sB (mskB 51 bs.length) (valB bs) = valB (bs.map (sB 51))
  | [], _ => rfl
  | b :: r, h => by
    have ih := valB_B r fun x hx => h x (List.mem_cons_of_mem _ hx)
    rw [List.length_cons, mskB, valB, sB_byte _ _ _ (h b (List.mem_cons_self ..)), ih]; rfl
theorem valB_mod (bs : List Nat) (h : ∀ b ∈ bs, b % 16 < 5) : valB bs % 16 < 5 := by
  cases bs with
  | nil => simp [valB]
  | cons b r =>
    have := h b (List.mem_cons_self ..)
    rw [valB]; omega
theorem valB_C : ∀ (bs : List Nat), (∀ b ∈ bs, b < 69 ∧ b % 16 < 5) → sC (mskB 15 bs.length) (valB bs) = valB (bs.map (sC 15))
  | [], _ => rfl
  | b :: r, h => by
    have ih := valB_C r fun x hx => h x (List.mem_cons_of_mem _ hx)
    rw [List.length_cons, mskB, valB, sC_byte _ _ _ (h b (List.mem_cons_self ..)).1 (valB_mod r fun x hx => (h x (List.mem_cons_of_mem _ hx)).2), ih]; rfl
theorem swar3 (bs : List Nat) (h : ∀ b ∈ bs, b < 256) : sC (mskB 15 bs.length) (sB (mskB 51 bs.length) (sA (mskB 85 bs.length) (valB bs))) = valB (bs.map pop8) := by
  rw [valB_A bs h]
  have h2 : ∀ b ∈ bs.map (sA 85), b < 256 := fun b hb => by
    obtain ⟨x, hx, rfl⟩ := List.mem_map.1 hb
    exact byteAlt x (h x hx)
  have e2 := valB_B (bs.map (sA 85)) h2
  rw [List.length_map] at e2
  rw [e2]
  have e3 := valB_C ((bs.map (sA 85)).map (sB 51)) fun b hb => by
    obtain ⟨y, hy, rfl⟩ := List.mem_map.1 hb
    obtain ⟨x, hx, rfl⟩ := List.mem_map.1 hy
    exact byteBlt x (h x hx)
  rw [List.length_map, List.length_map] at e3
  rw [e3, List.map_map, List.map_map]
  congr 1
  exact List.map_congr_left fun x hx => bytePop x (h x hx)
def bytesOf (x : Nat) : List Nat := [x % 256, x / 256 % 256, x / 65536 % 256, x / 16777216 % 256, x / 4294967296 % 256, x / 1099511627776 % 256, x / 281474976710656 % 256, x / 72057594037927936 % 256]
theorem val_bytes {x : Nat} (h : x < 2 ^ 64) : valB (bytesOf x) = x := by
  simp only [bytesOf, valB]; omega
theorem bytes_lt (x : Nat) : ∀ b ∈ bytesOf x, b < 256 := by
  intro b hb
  simp only [bytesOf, List.mem_cons, List.not_mem_nil, or_false] at hb
  rcases hb with rfl | rfl | rfl | rfl | rfl | rfl | rfl | rfl <;> exact Nat.mod_lt _ (by omega)
def sZ (x : Nat) : Nat := sC 1085102592571150095 (sB 3689348814741910323 (sA 6148914691236517205 x))
theorem pop8_le (b : Nat) : pop8 b ≤ 8 := by unfold pop8; omega
theorem sZ_eq {x : Nat} (h : x < 2 ^ 64) : sZ x = valB ((bytesOf x).map pop8) := by
  have := swar3 (bytesOf x) (bytes_lt x)
  rw [val_bytes h, show (bytesOf x).length = 8 from rfl, show mskB 85 8 = 6148914691236517205 by decide +kernel, show mskB 51 8 = 3689348814741910323 by decide +kernel, show mskB 15 8 = 1085102592571150095 by decide +kernel] at this
  unfold sZ
  exact this
def sumD (z : Nat) : Nat := z + z >>> 8
def sumE (z : Nat) : Nat := z + z >>> 16
def sumF (z : Nat) : Nat := z + z >>> 32
theorem fold_mod (L W d0 d4 l u : Nat) (hL : L < 4294967296) (h1 : L = d0 + 256 * l) (h2 : W = d4 + 256 * u) (h3 : d0 + d4 < 128) : sumF (L + 4294967296 * W) % 128 = d0 + d4 := by
  unfold sumF
  rw [Nat.shiftRight_eq_div_pow, show (2 : Nat) ^ 32 = 4294967296 from rfl, Nat.add_mul_div_left _ _ (by omega), Nat.div_eq_of_lt hL]
  omega
theorem sums_eq {c0 c1 c2 c3 c4 c5 c6 c7 : Nat} (h0 : c0 ≤ 8) (h1 : c1 ≤ 8) (h2 : c2 ≤ 8) (h3 : c3 ≤ 8) (h4 : c4 ≤ 8) (h5 : c5 ≤ 8) (h6 : c6 ≤ 8) (h7 : c7 ≤ 8) :
    sumF (sumE (sumD (valB [c0, c1, c2, c3, c4, c5, c6, c7]))) % 128 = c0 + c1 + c2 + c3 + c4 + c5 + c6 + c7 := by
  have e1 : sumD (valB [c0, c1, c2, c3, c4, c5, c6, c7]) = valB [c0 + c1, c1 + c2, c2 + c3, c3 + c4, c4 + c5, c5 + c6, c6 + c7, c7] := by
    simp only [sumD, valB, Nat.shiftRight_eq_div_pow]; omega
  have e2 : sumE (valB [c0 + c1, c1 + c2, c2 + c3, c3 + c4, c4 + c5, c5 + c6, c6 + c7, c7]) = valB [c0 + c1 + (c2 + c3), c1 + c2 + (c3 + c4), c2 + c3 + (c4 + c5), c3 + c4 + (c5 + c6), c4 + c5 + (c6 + c7), c5 + c6 + c7, c6 + c7, c7] := by
    simp only [sumE, valB, Nat.shiftRight_eq_div_pow]; omega
  have e3 : sumF (valB [c0 + c1 + (c2 + c3), c1 + c2 + (c3 + c4), c2 + c3 + (c4 + c5), c3 + c4 + (c5 + c6), c4 + c5 + (c6 + c7), c5 + c6 + c7, c6 + c7, c7]) % 128 = c0 + c1 + (c2 + c3) + (c4 + c5 + (c6 + c7)) := by
    have := fold_mod (valB [c0 + c1 + (c2 + c3), c1 + c2 + (c3 + c4), c2 + c3 + (c4 + c5), c3 + c4 + (c5 + c6)]) (valB [c4 + c5 + (c6 + c7), c5 + c6 + c7, c6 + c7, c7]) (c0 + c1 + (c2 + c3)) (c4 + c5 + (c6 + c7))
      (valB [c1 + c2 + (c3 + c4), c2 + c3 + (c4 + c5), c3 + c4 + (c5 + c6)]) (valB [c5 + c6 + c7, c6 + c7, c7]) (by simp only [valB]; omega) (by simp only [valB]; omega) (by simp only [valB]; omega) (by omega)
    rw [← this]
    congr 2
    simp only [valB]; omega
  rw [e1, e2, e3]; omega
end Go.Proofs.Ytpfemaonipcbgaa
