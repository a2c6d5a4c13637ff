/- Reading windows: both ways of reading agree; no program in sight. -/
import Derived.Test.YtdneffnnpjgnbacDoorRDec2
import Derived.Test.YtdneffnnpjgnbacDoorRSplit
namespace Go.Proofs.YtdneffnnpjgnbacDoor
open Go.RowKit

theorem itoa_bytes (n : Int) : ∀ c ∈ Lib.itoa n, c.toNat ≠ 32 ∧ c.toNat ≠ 46 := by
  intro c hc
  rcases Int.lt_or_le n 0 with h | h
  · rw [decZ_itoa_neg h] at hc
    rcases List.mem_cons.1 hc with rfl | h2
    · exact ⟨by decide, by decide⟩
    · unfold decZ at h2
      rw [if_neg (by omega)] at h2
      have := decDigits_dig _ _ (Nat.le_refl _) c h2; omega
  · obtain ⟨k, rfl⟩ : ∃ k : Nat, n = (k : Int) := ⟨n.toNat, by omega⟩
    rw [Lib.itoa_nonneg] at hc
    have := decDigits_dig k k (Nat.le_refl _) c hc; omega
theorem itoa_no46 (n : Int) : ∀ c ∈ Lib.itoa n, c ≠ 46 := fun c hc e => (itoa_bytes n c hc).2 (by rw [e]; rfl)
theorem word_no32 (z : Int × Int) : ∀ c ∈ wordW z, c ≠ 32 := by
  intro c hc e
  unfold wordW at hc
  rcases List.mem_append.1 hc with h | h
  · rcases List.mem_append.1 h with h | h
    · exact (itoa_bytes _ c h).1 (by rw [e]; rfl)
    · rw [e] at h; revert h; decide
  · exact (itoa_bytes _ c h).1 (by rw [e]; rfl)

/-! Cutting. -/
theorem cut_none {u : List UInt8} {c : UInt8} {t : List UInt8} (h : ∀ x ∈ u, x ≠ c) : Lib.cut u (c :: t) = (u, [], false) := by
  have hi : Lib.index u (c :: t) = -1 := Lib.index_none fun j hj => by
    rcases ho : Lib.occAt u (c :: t) j with _ | _
    · rfl
    · exact absurd rfl (h c (List.mem_of_getElem? (Lib.occAt_head rfl ho)))
  unfold Lib.cut
  rw [hi]; rfl
theorem cut_at {u r : List UInt8} {c : UInt8} {t : List UInt8} (h : ∀ x ∈ u, x ≠ c) : Lib.cut (u ++ (c :: t) ++ r) (c :: t) = (u, r, true) := by
  have hi : Lib.index (u ++ (c :: t) ++ r) (c :: t) = (u.length : Nat) := Lib.index_first (by simp) (by
      unfold Lib.occAt
      rw [List.append_assoc, List.drop_left]
      exact List.isPrefixOf_iff_prefix.2 (List.prefix_append _ _)) fun j hj => by
    rcases ho : Lib.occAt (u ++ (c :: t) ++ r) (c :: t) j with _ | _
    · rfl
    · have := Lib.occAt_head rfl ho
      rw [List.append_assoc, List.getElem?_append_left hj] at this
      exact absurd rfl (h c (List.mem_of_getElem? this))
  unfold Lib.cut
  rw [hi, if_pos (by omega), Int.toNat_natCast]
  congr 1
  · rw [List.append_assoc]; exact List.take_left
  · congr 1
    rw [show u.length + (c :: t).length = (u ++ (c :: t)).length by rw [List.length_append]]
    exact List.drop_left
theorem cut_short (l : List UInt8) (hl : l ≠ []) (c : UInt8) : (Lib.cut l [c]).2.1.length < l.length := by
  have : 0 < l.length := by cases l with | nil => exact absurd rfl hl | cons a r => simp
  unfold Lib.cut
  split
  · simp only [List.length_drop, List.length_cons, List.length_nil]; omega
  · simpa using this
theorem cut_le1 (l sep : List UInt8) : (Lib.cut l sep).1.length ≤ l.length := by
  unfold Lib.cut
  split
  · simp only [List.length_take]; omega
  · exact Nat.le_refl _
theorem cut_le2 (l sep : List UInt8) : (Lib.cut l sep).2.1.length ≤ l.length := by
  unfold Lib.cut
  split
  · simp only [List.length_drop]; omega
  · simp

/-! Parting. -/
theorem spl_none {b : UInt8} : ∀ (u cur : List UInt8), (∀ c ∈ u, c ≠ b) → spl b u cur = [textS (cur ++ u)]
  | [], cur, _ => by rw [spl, List.append_nil]
  | c :: r, cur, h => by
    rw [spl, if_neg (h c (by simp)), spl_none r (cur ++ [c]) (fun x hx => h x (by simp [hx]))]
    simp
theorem spl_cons {b : UInt8} (r : List UInt8) : ∀ (u cur : List UInt8), (∀ c ∈ u, c ≠ b) → spl b (u ++ b :: r) cur = textS (cur ++ u) :: spl b r []
  | [], cur, _ => by rw [List.nil_append, spl, if_pos rfl, List.append_nil]
  | c :: q, cur, h => by
    rw [List.cons_append, spl, if_neg (h c (by simp)), spl_cons r q (cur ++ [c]) (fun x hx => h x (by simp [hx]))]
    simp
theorem spl_ne (b : UInt8) : ∀ (l cur : List UInt8), ∃ x r, spl b l cur = x :: r
  | [], cur => ⟨_, _, rfl⟩
  | c :: r, cur => by
    rw [spl]
    split
    · exact ⟨_, _, rfl⟩
    · exact spl_ne b r _
theorem spl_join (b : UInt8) : ∀ (l cur : List UInt8), Lib.join ((spl b l cur).map (·.data.toList)) [b] = cur ++ l
  | [], cur => by rw [spl, List.map_cons, List.map_nil, Lib.join_one, textS_data, List.append_nil]
  | c :: r, cur => by
    rw [spl]
    split
    · rename_i h
      subst h
      have ih := spl_join c r []
      obtain ⟨x, q, hx⟩ := spl_ne c r []
      rw [hx, List.map_cons, Lib.join_cons] at ih
      rw [List.map_cons, hx, List.map_cons, Lib.join_cons, textS_data]
      rw [List.nil_append] at ih
      unfold Lib.joinTail at ih ⊢
      rw [List.map_cons, List.flatten_cons, List.append_assoc, ih]; rfl
    · rw [spl_join b r (cur ++ [c])]; simp

/-! Numerals. -/
theorem endR_true {l : List UInt8} {n : Int} (h : (endR l n).2 = true) : Lib.itoa (endR l n).1 = l := by
  unfold endR at h ⊢
  by_cases h3 : Lib.itoa n = l
  · rw [if_pos h3]; exact h3
  · rw [if_neg h3] at h; cases h
theorem numR_true {l : List UInt8} (h : (numR l).2 = true) : Lib.itoa (numR l).1 = l := by
  unfold numR at h ⊢
  by_cases h1 : 1 ≤ (trimL l).length ∧ (trimL l).length ≤ 18
  · rw [if_pos h1] at h ⊢
    by_cases h2 : (valR (trimL l) 0).2 = true
    · rw [if_pos h2] at h ⊢; exact endR_true h
    · rw [if_neg h2] at h; cases h
  · rw [if_neg h1] at h; cases h
theorem valR_app : ∀ (p : List UInt8) (c : UInt8) (a v : Int), digI (c.toNat : Int) = true → valR p a = (v, true) → valR (p ++ [c]) a = (10 * v + ((c.toNat : Int) - 48), true)
  | [], c, a, v, hc, h => by
    have : a = v := (Prod.mk.inj h).1
    rw [List.nil_append, valR_yes hc, this]; rfl
  | d :: r, c, a, v, hc, h => by
    rcases hd : digI (d.toNat : Int) with _ | _
    · rw [valR_no hd] at h; cases h
    · rw [valR_yes hd] at h
      rw [List.cons_append, valR_yes hd]
      exact valR_app r c _ v hc h
theorem byte_val {d : Nat} (h : d < 10) : digI ((UInt8.ofNat (48 + d)).toNat : Int) = true ∧ (((UInt8.ofNat (48 + d)).toNat : Int) - 48) = d := by
  have e : (UInt8.ofNat (48 + d)).toNat = 48 + d := by rw [UInt8.toNat_ofNat']; omega
  rw [e]
  refine ⟨by unfold digI; simp; omega, by omega⟩
theorem valR_dec : ∀ (m u : Nat), u ≤ m → valR (Lib.decDigits u) 0 = ((u : Int), true) := by
  intro m
  induction m with
  | zero =>
    intro u hu
    have := byte_val (show u < 10 by omega)
    rw [Lib.decDigits_one (by omega), valR_yes this.1, this.2]
    rw [show (10 * 0 + (u : Int)) = u by omega]; rfl
  | succ m ih =>
    intro u hu
    by_cases h : u < 10
    · have := byte_val h
      rw [Lib.decDigits_one h, valR_yes this.1, this.2]
      rw [show (10 * 0 + (u : Int)) = u by omega]; rfl
    · have := byte_val (Nat.mod_lt u (by omega : 0 < 10))
      rw [dec_bigL h, valR_app _ _ _ _ this.1 (ih (u / 10) (by omega)), this.2]
      congr 1
      omega
theorem dec_len_pos (u : Nat) : 1 ≤ (Lib.decDigits u).length := by
  by_cases h : u < 10
  · rw [Lib.decDigits_one h]; simp
  · rw [dec_bigL h]; simp
theorem dec_len : ∀ (k u : Nat), u < 10 ^ (k + 1) → (Lib.decDigits u).length ≤ k + 1 := by
  intro k
  induction k with
  | zero => intro u hu; rw [Lib.decDigits_one (by simpa using hu)]; simp
  | succ k ih =>
    intro u hu
    by_cases h : u < 10
    · rw [Lib.decDigits_one h]; simp
    · rw [dec_bigL h]
      have := ih (u / 10) (by rw [Nat.pow_succ] at hu; omega)
      simp; omega
theorem numR_itoa {n : Int} (h0 : 0 ≤ n) (h1 : n ≤ 10000000) : numR (Lib.itoa n) = (n, true) := by
  obtain ⟨k, rfl⟩ : ∃ k : Nat, n = (k : Int) := ⟨n.toNat, by omega⟩
  rw [Lib.itoa_nonneg]
  have hl := dec_len_pos k
  have hl2 := dec_len 7 k (by omega)
  have hd : dashB (Lib.decDigits k) = false := by
    rcases e : Lib.decDigits k with _ | ⟨c, r⟩
    · rfl
    · have := (decDigits_dig k k (Nat.le_refl _) c (by rw [e]; simp)).1
      unfold dashB
      simp only [List.take_succ_cons, List.take_zero, beq_eq_false_iff_ne, ne_eq, List.cons.injEq, and_true]
      intro e2; rw [e2] at this; revert this; decide
  have ht := trim_no hd
  unfold numR
  rw [ht, if_pos ⟨hl, by omega⟩, valR_dec k k (Nat.le_refl _), hd]
  unfold endR
  rw [if_pos rfl]
  simp only [Bool.false_eq_true, if_false]
  rw [if_pos (Lib.itoa_nonneg k)]

/-! A word. -/
def wordR (w : List UInt8) : Option (Int × Int) :=
  match spl 46 w [] with
  | [a, b, c] => if b.size = 0 ∧ (numR a.data.toList).2 = true ∧ (numR c.data.toList).2 = true then some ((numR a.data.toList).1, (numR c.data.toList).1) else none
  | _ => none
theorem wordR_some {w : List UInt8} {p : Int × Int} (h : wordR w = some p) : w = wordW p := by
  have hj := spl_join 46 w []
  unfold wordR at h
  split at h
  · rename_i a b c he
    split at h
    · rename_i hc
      obtain ⟨h1, h2, h3⟩ := hc
      cases h
      rw [he, List.nil_append] at hj
      rw [← hj]
      unfold wordW
      rw [numR_true h2, numR_true h3, List.map_cons, List.map_cons, List.map_cons, List.map_nil, Lib.join_cons]
      have hb : b.data.toList = [] := List.eq_nil_of_length_eq_zero (by simpa using h1)
      rw [hb]
      simp [Lib.joinTail]
    · cases h
  · cases h
theorem wordR_word {p : Int × Int} (h : 0 ≤ p.1 ∧ p.1 ≤ 10000000 ∧ 0 ≤ p.2 ∧ p.2 ≤ 10000000) : wordR (wordW p) = some p := by
  have e : spl 46 (wordW p) [] = [textS (Lib.itoa p.1), textS [], textS (Lib.itoa p.2)] := by
    unfold wordW
    rw [List.append_assoc, show [46, 46] ++ Lib.itoa p.2 = (46 : UInt8) :: ([] ++ 46 :: Lib.itoa p.2) from rfl, spl_cons _ _ _ (itoa_no46 _), spl_cons _ _ _ (by simp), spl_none _ _ (itoa_no46 _)]
    simp
  unfold wordR
  rw [e]
  simp only [textS_data, numR_itoa h.1 h.2.1, numR_itoa h.2.2.1 h.2.2.2]
  rfl
def rangeR (l : List UInt8) : Int × Int × Bool := ((numR (Lib.cut l [46, 46]).1).1, (numR (Lib.cut l [46, 46]).2.1).1, (numR (Lib.cut l [46, 46]).1).2 && (numR (Lib.cut l [46, 46]).2.1).2)
theorem rangeR_word {p : Int × Int} (h : 0 ≤ p.1 ∧ p.1 ≤ 10000000 ∧ 0 ≤ p.2 ∧ p.2 ≤ 10000000) : rangeR (wordW p) = (p.1, p.2, true) := by
  unfold rangeR wordW
  rw [cut_at (itoa_no46 _)]
  simp only [numR_itoa h.1 h.2.1, numR_itoa h.2.2.1 h.2.2.2]
  rfl

/-! The reference's way. -/
def readS : List ByteArray → List (Int × Int) → Option (List (Int × Int))
  | [], xs => some xs
  | w :: ws, xs => match wordR w.data.toList with
    | none => none
    | some p => readS ws (xs ++ [p])
theorem readS_some : ∀ {ws : List ByteArray} {xs ys : List (Int × Int)}, readS ws xs = some ys → ∃ zs, ys = xs ++ zs ∧ ws.map (·.data.toList) = zs.map wordW
  | [], xs, ys, h => ⟨[], by cases h; simp, rfl⟩
  | w :: ws, xs, ys, h => by
    unfold readS at h
    split at h
    · cases h
    · rename_i p hp
      obtain ⟨zs, h1, h2⟩ := readS_some h
      exact ⟨p :: zs, by rw [h1]; simp, by rw [List.map_cons, List.map_cons, h2, wordR_some hp]⟩
theorem readS_words : ∀ {zs xs : List (Int × Int)}, (∀ z ∈ zs, 0 ≤ z.1 ∧ z.1 ≤ 10000000 ∧ 0 ≤ z.2 ∧ z.2 ≤ 10000000) → readS (zs.map fun z => textS (wordW z)) xs = some (xs ++ zs)
  | [], xs, _ => by simp [readS]
  | z :: zs, xs, h => by
    rw [List.map_cons, readS, textS_data, wordR_word (h z (by simp))]
    dsimp only
    rw [readS_words (fun q hq => h q (by simp [hq]))]
    simp
def specR (l : List UInt8) : Option (List (Int × Int)) :=
  if l = [] then some [] else
  match readS (spl 32 l []) [] with
  | none => none
  | some xs => if windowsB xs = true then some xs else none
theorem spl_text : ∀ (zs : List (Int × Int)), zs ≠ [] → spl 32 (textF wordW zs) [] = zs.map fun z => textS (wordW z)
  | [], h => absurd rfl h
  | [z], _ => by
    unfold textF
    rw [List.map_cons, List.map_nil, Lib.join_one, spl_none _ _ (word_no32 z)]; simp
  | z :: y :: r, _ => by
    have ih := spl_text (y :: r) (by simp)
    unfold textF at ih ⊢
    rw [List.map_cons, List.map_cons] at ih ⊢
    rw [List.map_cons, Lib.join_cons, Lib.joinTail, List.map_cons, List.flatten_cons, show [32] ++ wordW y ++ (List.map (fun x => [32] ++ x) (List.map wordW r)).flatten = 32 :: (wordW y ++ Lib.joinTail [32] (List.map wordW r)) from rfl,
      spl_cons _ _ _ (word_no32 z), ← Lib.join_cons, ih]
    simp
theorem good_all {xs : List (Int × Int)} (h : windowsB xs = true) : ∀ z ∈ xs, 0 ≤ z.1 ∧ z.1 ≤ 10000000 ∧ 0 ≤ z.2 ∧ z.2 ≤ 10000000 := by
  intro z hz
  obtain ⟨k, hk⟩ := List.getElem?_of_mem hz
  have := windowsB_get h hk
  exact ⟨this.1, this.2.1, this.2.2.1, this.2.2.2.1⟩
theorem word_ne (z : Int × Int) : wordW z ≠ [] := by
  unfold wordW
  intro e
  have := congrArg List.length e
  simp at this
theorem textF_ne {z : Int × Int} {r : List (Int × Int)} : textF wordW (z :: r) ≠ [] := by
  unfold textF
  rw [List.map_cons, Lib.join_cons]
  intro e
  exact word_ne z (List.append_eq_nil_iff.1 e).1
theorem specR_text {xs : List (Int × Int)} (h : windowsB xs = true) : specR (textF wordW xs) = some xs := by
  unfold specR
  cases xs with
  | nil => rfl
  | cons z r =>
    rw [if_neg textF_ne, spl_text _ (by simp), readS_words (good_all h), List.nil_append]
    dsimp only
    rw [if_pos h]
theorem specR_some {l : List UInt8} {xs : List (Int × Int)} (h : specR l = some xs) : windowsB xs = true ∧ l = textF wordW xs := by
  unfold specR at h
  split at h
  · rename_i h0
    cases h
    exact ⟨rfl, by rw [h0]; rfl⟩
  · split at h
    · cases h
    · rename_i ys hy
      split at h
      · rename_i hw
        cases h
        refine ⟨hw, ?_⟩
        obtain ⟨zs, h1, h2⟩ := readS_some hy
        rw [List.nil_append] at h1
        subst h1
        have := spl_join 32 l []
        rw [h2, List.nil_append] at this
        exact this.symm
      · cases h

/-! The program's way. -/
def readI : Nat → List UInt8 → List (Int × Int) → Option (List (Int × Int))
  | 0, _, _ => none
  | f + 1, l, xs => if l = [] then some xs else
    if (rangeR (Lib.cut l [32]).1).2.2 = true ∧ xs.length ≠ 30 then readI f (Lib.cut l [32]).2.1 (xs ++ [((rangeR (Lib.cut l [32]).1).1, (rangeR (Lib.cut l [32]).1).2.1)]) else none
theorem readI_text : ∀ (f : Nat) (zs ys : List (Int × Int)), (∀ z ∈ zs, 0 ≤ z.1 ∧ z.1 ≤ 10000000 ∧ 0 ≤ z.2 ∧ z.2 ≤ 10000000) → ys.length + zs.length ≤ 30 → (textF wordW zs).length < f → readI f (textF wordW zs) ys = some (ys ++ zs) := by
  intro f
  induction f with
  | zero => intro zs ys _ _ h; omega
  | succ f ih =>
    intro zs ys hg hn hf
    cases zs with
    | nil => rw [readI, if_pos (show textF wordW [] = [] from rfl), List.append_nil]
    | cons z r =>
      rw [List.length_cons] at hn
      have hc : Lib.cut (textF wordW (z :: r)) [32] = (wordW z, textF wordW r, (Lib.cut (textF wordW (z :: r)) [32]).2.2) := by
        cases r with
        | nil =>
          have e : textF wordW [z] = wordW z := by unfold textF; rw [List.map_cons, List.map_nil, Lib.join_one]
          rw [e, cut_none (word_no32 z)]; rfl
        | cons y q =>
          have e : textF wordW (z :: y :: q) = wordW z ++ [32] ++ textF wordW (y :: q) := by
            unfold textF
            rw [List.map_cons, List.map_cons, Lib.join_cons, Lib.joinTail, List.map_cons, List.flatten_cons, Lib.join_cons, Lib.joinTail]
            simp
          rw [e, cut_at (word_no32 z)]
      have hs := cut_short _ (textF_ne (z := z) (r := r)) 32
      rw [readI, if_neg textF_ne]
      rw [hc] at hs ⊢
      dsimp only at hs ⊢
      rw [rangeR_word (hg z (by simp)), if_pos ⟨rfl, by omega⟩, ih r _ (fun q hq => hg q (by simp [hq])) (by simp; omega) (by omega)]
      simp
def implR (l : List UInt8) : Option (List (Int × Int)) :=
  match readI (l.length + 1) l [] with
  | none => none
  | some xs => if windowsB xs = true ∧ textF wordW xs = l then some xs else none
theorem read_same (l : List UInt8) : implR l = specR l := by
  by_cases h : ∃ xs, windowsB xs = true ∧ l = textF wordW xs
  · obtain ⟨xs, h1, rfl⟩ := h
    rw [specR_text h1]
    unfold implR
    rw [readI_text _ xs [] (good_all h1) (by have := windowsB_len h1; simpa using this) (Nat.lt_succ_self _), List.nil_append]
    dsimp only
    rw [if_pos ⟨h1, rfl⟩]
  · have e1 : specR l = none := by
      rcases e : specR l with _ | xs
      · rfl
      · exact absurd ⟨xs, specR_some e⟩ h
    rw [e1]
    unfold implR
    split
    · rfl
    · rename_i xs _
      split
      · rename_i hc
        exact absurd ⟨xs, hc.1, hc.2.symm⟩ h
      · rfl
/-- what both hand back: the windows, and whether the text is one -/
def readW (l : List UInt8) : List (Int × Int) × Bool := match specR l with
  | none => ([], false)
  | some xs => (xs, true)
theorem readW_len (l : List UInt8) : (readW l).1.length ≤ 30 := by
  unfold readW
  split
  · simp
  · rename_i xs h; exact windowsB_len (specR_some h).1
end Go.Proofs.YtdneffnnpjgnbacDoor
