/- The two laws about numerals; no program in sight. -/
import Derived.Test.YtdneffnnpjgnbacDoorRVal
import Derived.Test.YtdneffnnpjgnbacDoorRNum3
namespace Go.Proofs.YtdneffnnpjgnbacDoor
open Go.RowKit

theorem parseU (l : List UInt8) (h1 : 1 ≤ l.length) (h2 : l.length ≤ 18) :
    (∃ u : Nat, valR l 0 = ((u : Int), true) ∧ Lib.parseUintB 64 l = .ok u ∧ u < 1000000000000000000) ∨ (valR l 0 = (0, false) ∧ Lib.parseUintB 64 l = .syntax) := by
  unfold Lib.parseUintB
  rw [if_neg (by intro e; rw [e] at h1; simp at h1)]
  exact valM _ (by decide) l 0 0 (by decide) (by omega)
theorem num_err {l : List UInt8} (hl : 1 ≤ (trimL l).length ∧ (trimL l).length ≤ 18) (h : valR (trimL l) 0 = (0, false)) : numR l = (0, false) := by
  unfold numR
  rw [if_pos hl, h]; rfl
theorem num_ok {l : List UInt8} {a : Int} (hl : 1 ≤ (trimL l).length ∧ (trimL l).length ≤ 18) (h : valR (trimL l) 0 = (a, true)) : numR l = endR l (if dashB l then -a else a) := by
  unfold numR
  rw [if_pos hl, h]; rfl
theorem dig_byte {d : Nat} (h : d < 10) : 48 ≤ (UInt8.ofNat (48 + d)).toNat ∧ (UInt8.ofNat (48 + d)).toNat ≤ 57 := by
  rw [UInt8.toNat_ofNat']; omega
theorem dec_bigL {u : Nat} (h : ¬ u < 10) : Lib.decDigits u = Lib.decDigits (u / 10) ++ [UInt8.ofNat (48 + u % 10)] := by rw [Lib.decDigits, dif_neg h]
theorem decDigits_dig : ∀ (m u : Nat), u ≤ m → ∀ c ∈ Lib.decDigits u, 48 ≤ c.toNat ∧ c.toNat ≤ 57 := by
  intro m
  induction m with
  | zero =>
    intro u hu c hc
    rw [Lib.decDigits_one (by omega)] at hc
    rw [List.mem_singleton.1 hc]
    exact dig_byte (by omega)
  | succ m ih =>
    intro u hu c hc
    by_cases h : u < 10
    · rw [Lib.decDigits_one h] at hc
      rw [List.mem_singleton.1 hc]
      exact dig_byte h
    · rw [dec_bigL h] at hc
      rcases List.mem_append.1 hc with h1 | h1
      · exact ih (u / 10) (by omega) c h1
      · rw [List.mem_singleton.1 h1]
        exact dig_byte (by omega)
theorem itoa_plus (n : Int) (r : List UInt8) : Lib.itoa n ≠ 43 :: r := by
  intro e
  rcases Int.lt_or_le n 0 with h | h
  · rw [decZ_itoa_neg h] at e
    have := (List.cons.inj e).1
    revert this; decide
  · obtain ⟨k, rfl⟩ : ∃ k : Nat, n = (k : Int) := ⟨n.toNat, by omega⟩
    rw [Lib.itoa_nonneg] at e
    have := (decDigits_dig k k (Nat.le_refl _) 43 (by rw [e]; simp)).1
    revert this; decide
theorem num_law (l : List UInt8) (hl : 1 ≤ (trimL l).length ∧ (trimL l).length ≤ 18) :
    (∃ n, Lib.parseIntB 64 l = .ok n ∧ numR l = endR l n) ∨ ((∀ v, Lib.parseIntB 64 l ≠ .ok v) ∧ numR l = (0, false)) := by
  have hu := parseU (trimL l) hl.1 hl.2
  cases l with
  | nil => exact absurd hl.1 (by decide)
  | cons c r =>
    by_cases h45 : c = 45
    · subst h45
      have ht : trimL (45 :: r) = r := rfl
      have hd : dashB (45 :: r) = true := rfl
      rw [Lib.parseIntB_minus]
      rcases hu with ⟨u, h1, h2, h3⟩ | ⟨h1, h2⟩
      · refine .inl ⟨-(u : Int), ?_, ?_⟩
        · rw [ht] at h2
          rw [h2, Lib.signedC, if_neg (by omega)]
        · rw [num_ok hl h1, hd]; rfl
      · refine .inr ⟨?_, num_err hl h1⟩
        rw [ht] at h2
        rw [h2]; intro v e; cases e
    · have hd : dashB (c :: r) = false := by unfold dashB; simpa using h45
      have ht := trim_no hd
      by_cases h43 : c = 43
      · subst h43
        have hv : valR (trimL (43 :: r)) 0 = (0, false) := by rw [ht]; exact valR_no (by decide)
        have hn := num_err hl hv
        by_cases hok : ∃ n, Lib.parseIntB 64 (43 :: r) = .ok n
        · obtain ⟨n, hn2⟩ := hok
          refine .inl ⟨n, hn2, ?_⟩
          rw [hn]; unfold endR; rw [if_neg (itoa_plus n r)]
        · exact .inr ⟨fun v e => hok ⟨v, e⟩, hn⟩
      · rw [Lib.parseIntB_plain 64 c r (fun e => h43 (UInt8.toNat_inj.1 e)) (fun e => h45 (UInt8.toNat_inj.1 e))]
        rcases hu with ⟨u, h1, h2, h3⟩ | ⟨h1, h2⟩
        · refine .inl ⟨(u : Int), ?_, ?_⟩
          · rw [ht] at h2
            rw [h2, Lib.signlessC, if_neg (by omega)]
          · rw [num_ok hl h1, hd]; rfl
        · refine .inr ⟨?_, num_err hl h1⟩
          rw [ht] at h2
          rw [h2]; intro v e; cases e
end Go.Proofs.YtdneffnnpjgnbacDoor
