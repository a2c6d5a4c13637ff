/- Decimal numerals: what the reference's 'l01Dec' and the program's 'Decimal' return. -/
import Derived.Test.YtdneffnnpjgnbacDoorBase
import Derived.Test.YtdneffnnpjgnbacDoorRow
import Derived.Test.YtdneffnnpjgnbacDoorShelfT
import Derived.Laws.IdiomStrings
import Derived.Lib.ItoaLen
import Derived.Lib.AppendIntMem
namespace Go.Proofs.YtdneffnnpjgnbacDoor
open Go.RowKit

theorem args_g1 {P : Program} {f : FuncId} {w : World} {Q : Ending → World → Prop} {v : Value} (u : Value) (_ : v = u) (c : Calls P f #[v] w Q) : Calls P f #[v] w Q := c
def celY : Cel UInt8 := ⟨1, fun b => [.int .u8 (b.toNat : Int)], fun _ => rfl, by decide, fun _ u h => by simp at h; subst h; rfl⟩
def textS (l : List UInt8) : ByteArray := ⟨l.toArray⟩
/-- the digits of a number, none of 0 -/
def decZ (u : Nat) : List UInt8 := if u = 0 then [] else Lib.decDigits u
theorem decZ_step {u : Nat} (h : 0 < u) : decZ u = decZ (u / 10) ++ [UInt8.ofNat (48 + u % 10)] := by
  unfold decZ
  rw [if_neg (by omega)]
  by_cases h2 : u < 10
  · rw [Lib.decDigits_one h2, if_pos (by omega), Nat.mod_eq_of_lt h2]; rfl
  · rw [Lib.decDigits, dif_neg h2, if_neg (by omega)]
theorem decZ_itoa_pos {n : Int} (h : 0 < n) : Lib.itoa n = decZ n.natAbs := by
  unfold Lib.itoa decZ
  rw [if_neg (by omega), if_neg (by omega), show n.toNat = n.natAbs by omega]
theorem decZ_itoa_neg {n : Int} (h : n < 0) : Lib.itoa n = 45 :: decZ n.natAbs := by
  unfold Lib.itoa decZ
  rw [if_pos h, if_neg (by omega)]
theorem decZ_pos {u : Nat} (h : 0 < u) : (decZ u).length ≠ 0 := by
  rw [decZ_step h]; simp
theorem byte48 (d : Nat) (h : d < 10) : ((UInt8.ofNat (48 + d)).toNat : Int) = 48 + (d : Int) := by
  rw [UInt8.toNat_ofNat']; omega
def DecInv (n : Int) (k : Int) (l : List UInt8) : Prop := decZ n.natAbs = decZ k.natAbs ++ l ∧ l.length ≤ 30 ∧ k.natAbs < 10 ^ (30 - l.length)
theorem decInv_start {n : Int} (h0 : -9223372036854775808 ≤ n) (h1 : n ≤ 9223372036854775807) : DecInv n n [] := by
  refine ⟨by simp, by simp, ?_⟩
  show n.natAbs < 10 ^ 30
  omega
theorem decInv_step {n k k' : Int} {l : List UInt8} {d : Nat} (h : DecInv n k l) (hk : k ≠ 0) (hd : d = k.natAbs % 10) (hq : k'.natAbs = k.natAbs / 10) : DecInv n k' (UInt8.ofNat (48 + d) :: l) := by
  obtain ⟨h1, h2, h3⟩ := h
  have hl : l.length < 30 := by
    rcases Nat.lt_or_ge l.length 30 with c | c
    · exact c
    · rw [show 30 - l.length = 0 by omega, Nat.pow_zero] at h3; omega
  refine ⟨?_, by simp; omega, ?_⟩
  · rw [h1, decZ_step (u := k.natAbs) (by omega), hq, hd]; simp
  · rw [hq, List.length_cons, show 30 - (l.length + 1) = 29 - l.length by omega]
    rw [show 30 - l.length = 29 - l.length + 1 by omega, Nat.pow_succ] at h3
    omega
theorem appY : AppF Tryd.prog 76 5 1 1 := appF_of (z := .int .u8 0) Tryd.underlying76 (by kernel_rfl) rfl
theorem rowY_len (l : List UInt8) : (celY.row l).length = l.length * 1 := Cel.row_len celY l
theorem rowY_get {l : List UInt8} {j : Nat} (h : j < l.length) : (celY.row l)[j]? = some (.int .u8 (l[j].toNat : Int)) := by
  have := celY.row_get l j l[j] 0 (.int .u8 (l[j].toNat : Int)) (by simp [h]) rfl
  simpa [celY] using this
/-- a row of bytes that the call owns, as its address and its cells -/
theorem own_bytes {w : World} {B : Nat} {e : TypeId} {v : Value} {l : List UInt8} (h : w.ownsRow B e 1 v l.length (celY.row l)) (h0 : 0 < l.length) :
    ∃ b c, v = .slice (some ⟨b, 0, none⟩) l.length c ∧ b < w.heap.size ∧ l.length ≤ c ∧ c ≤ maxLen := by
  have hl := h.lt
  rcases h.2 with ⟨rfl, hn⟩ | ⟨b, c, cur, rfl, hb, hg, h1, h2, _⟩
  · omega
  · exact ⟨b, c, rfl, (hl b rfl).2, h1, h2⟩
theorem own_castY {w : World} {B : Nat} {e : TypeId} {size : Nat} {v : Value} {n m : Nat} {cs ds : List Value} (h : w.ownsRow B e size v n cs) (hn : n = m) (hc : cs = ds) : w.ownsRow B e size v m ds := by subst hn hc; exact h
set_option maxHeartbeats 4000000 in
theorem l01Dec_c (n : Int) (h0 : -9223372036854775808 ≤ n) (h1 : n ≤ 9223372036854775807) (w : World) :
    Calls Tryd.prog 26 #[.int .i64 n] w (Ret (.string (textS (Lib.itoa n))) w) := by
  refine hide_ret fun v H => ?_
  go_enter Tryd.func26, Tryd.ntmps26
  go_wp2
  go_loopw [3, 4] (fun o k wr => ∃ (l : List UInt8) (x : Int) (b c : Nat), k = .int .i64 x ∧ o = .slice (some ⟨b, 0, none⟩) l.length c ∧ b < wr.heap.size ∧ l.length ≤ c ∧ c ≤ 9223372036854775807 ∧ Bel w wr ∧ (0 ≤ n → 0 ≤ x) ∧ (n < 0 → x ≤ 0) ∧ -9223372036854775808 ≤ x ∧ x ≤ 9223372036854775807 ∧ Hid (DecInv n x l) ∧ Hid (wr.ownsRow w.heap.size 5 1 (.slice (some ⟨b, 0, none⟩) l.length c) l.length (celY.row l))) (fun _ k _ => (intOf k).natAbs)
  case atStart =>
    have h9 := own_lit w w.heap.size 5 1 [] 0 rfl (Nat.le_refl _) (by unfold maxLen; omega)
    exact ⟨[], n, w.heap.size, 0, rfl, rfl, by simp, by simp, by omega, by (repeat (first | with_reducible exact Bel.refl _ | with_reducible assumption | apply Bel.ext | apply Bel.alloc | apply Bel.drew | exact Bel.refl _ | refine Bel.set ?_ (by first | (simp; done) | (simp [go_sem]; done) | omega) _)), by omega, by omega, h0, h1, Lib.hid (decInv_start h0 h1), Lib.hid h9⟩
  case round =>
    obtain ⟨l, x, b, c, rfl, rfl, hb, hc0, hc1, hbel, hp, hq, x0, x1, hd, hown⟩ := hrel
    obtain ⟨g4, rfl⟩ := ext_ex hbel
    rcases Int.lt_trichotomy x 0 with hx | hx | hx
    · obtain ⟨m, rfl⟩ : ∃ m : Nat, x = -(m : Int) := ⟨x.natAbs, by omega⟩
      have hn0 : n < 0 := by omega
      obtain ⟨y, hy⟩ : ∃ y : Int, 48 + (m : Int) % 10 = y := ⟨_, rfl⟩
      have hy2 : ((UInt8.ofNat (48 + m % 10)).toNat : Int) = y := by rw [byte48 _ (by omega)]; omega
      have hy3 : 48 ≤ y := by omega
      have hy4 : y ≤ 57 := by omega
      have et : (-(m : Int)).tmod 10 = -(y - 48) := by rw [Int.neg_tmod, Int.tmod_eq_emod_of_nonneg (by omega)]; omega
      have eq_ : (-(m : Int)).tdiv 10 = -((m : Int) / 10) := by rw [Int.neg_tdiv, Int.tdiv_eq_ediv_of_nonneg (by omega)]
      have hneq : (-(m : Int) == 0) = false := by simp; omega
      have hneq2 : (-(m : Int) != 0) = true := by simp; omega
      by_cases hy48 : y = 48
      · subst hy48
        have et2 : (-(m : Int)).tmod 10 = 0 := by rw [et]; rfl
        clear et
        have HS := Lib.hid (decInv_step (k' := -((m : Int) / 10)) (d := m % 10) hd.out (by omega) (by omega) (by omega))
        have hll := HS.out.2.1
        rw [List.length_cons] at hll
        clear hd
        go_wp2_with (at_builtin; refine wpList_append_ext rfl (.tmp 21) (.tmp 22) 76 5 1 1 rfl appY (by decide) w _ 1 [.int .u8 48] rfl (own_lit _ w.heap.size 5 1 [.int .u8 48] 1 rfl ?_ (by unfold maxLen; omega)) ⟨b, 0, none⟩ l.length c (celY.row l) rfl (rowY_len l) ?_ (fun u hu => by unfold Cel.row at hu; obtain ⟨x, _, hx⟩ := List.mem_flatMap.1 hu; exact celY.one x u hx) ?_ (by omega) (by omega) ?_; (focus (exact bel_size (by (repeat (first | with_reducible exact Bel.refl _ | with_reducible assumption | apply Bel.ext | apply Bel.alloc | apply Bel.drew | exact Bel.refl _ | refine Bel.set ?_ (by first | (simp; done) | (simp [go_sem]; done) | omega) _)) : Bel w _))); (focus (intro i u hi; have h9 := hown.out.cells (g := b) rfl i u hi; rw [addr_add, Nat.zero_add] at h9 ⊢; rw [Below.cell (by (repeat (first | with_reducible exact Bel.refl _ | with_reducible assumption | apply Bel.ext | apply Bel.alloc | apply Bel.drew | exact Bel.refl _ | refine Bel.set ?_ (by first | (simp; done) | (simp [go_sem]; done) | omega) _)) : Bel _ _) (p := ⟨b, i, none⟩) (hown.out.lt b rfl).2]; exact h9)); (focus (repeat (first | with_reducible exact Bel.refl _ | with_reducible assumption | apply Bel.ext | apply Bel.alloc | apply Bel.drew | exact Bel.refl _ | refine Bel.set ?_ (by first | (simp; done) | (simp [go_sem]; done) | omega) _))); intro v2 g2 hown2 hgr2)
        have hown3 := own_castY hown2 (show 1 + l.length = (UInt8.ofNat (48 + m % 10) :: l).length by rw [List.length_cons]; omega) (show [Value.int .u8 48] ++ celY.row l = celY.row (UInt8.ofNat (48 + m % 10) :: l) by rw [← hy2]; rfl)
        clear hown2 hgr2
        obtain ⟨b2, c2, rfl, hb2, hc2, hc3⟩ := own_bytes hown3 (by simp)
        unfold maxLen at hc3
        go_roundw
        case rel => exact ⟨UInt8.ofNat (48 + m % 10) :: l, -((m : Int) / 10), b2, c2, rfl, rfl, hb2, hc2, by omega, by (repeat (first | with_reducible exact Bel.refl _ | with_reducible assumption | apply Bel.ext | apply Bel.alloc | apply Bel.drew | exact Bel.refl _ | refine Bel.set ?_ (by first | (simp; done) | (simp [go_sem]; done) | omega) _)), by omega, by omega, by omega, by omega, HS, Lib.hid hown3⟩
        case measure => simp only [intOf]; omega
      · have et2 : -(y - 48) < 0 := by omega
        have et3 : 48 + (y - 48) = y := by omega
        have et4 : 48 + -(-(y - 48)) = y := by omega
        clear hy48
        have HS := Lib.hid (decInv_step (k' := -((m : Int) / 10)) (d := m % 10) hd.out (by omega) (by omega) (by omega))
        have hll := HS.out.2.1
        rw [List.length_cons] at hll
        clear hd
        go_wp2_with (at_builtin; refine wpList_append_ext rfl (.tmp 21) (.tmp 22) 76 5 1 1 rfl appY (by decide) w _ 1 [.int .u8 y] rfl (own_lit _ w.heap.size 5 1 [.int .u8 y] 1 rfl ?_ (by unfold maxLen; omega)) ⟨b, 0, none⟩ l.length c (celY.row l) rfl (rowY_len l) ?_ (fun u hu => by unfold Cel.row at hu; obtain ⟨x, _, hx⟩ := List.mem_flatMap.1 hu; exact celY.one x u hx) ?_ (by omega) (by omega) ?_; (focus (exact bel_size (by (repeat (first | with_reducible exact Bel.refl _ | with_reducible assumption | apply Bel.ext | apply Bel.alloc | apply Bel.drew | exact Bel.refl _ | refine Bel.set ?_ (by first | (simp; done) | (simp [go_sem]; done) | omega) _)) : Bel w _))); (focus (intro i u hi; have h9 := hown.out.cells (g := b) rfl i u hi; rw [addr_add, Nat.zero_add] at h9 ⊢; rw [Below.cell (by (repeat (first | with_reducible exact Bel.refl _ | with_reducible assumption | apply Bel.ext | apply Bel.alloc | apply Bel.drew | exact Bel.refl _ | refine Bel.set ?_ (by first | (simp; done) | (simp [go_sem]; done) | omega) _)) : Bel _ _) (p := ⟨b, i, none⟩) (hown.out.lt b rfl).2]; exact h9)); (focus (repeat (first | with_reducible exact Bel.refl _ | with_reducible assumption | apply Bel.ext | apply Bel.alloc | apply Bel.drew | exact Bel.refl _ | refine Bel.set ?_ (by first | (simp; done) | (simp [go_sem]; done) | omega) _))); intro v2 g2 hown2 hgr2)
        have hown3 := own_castY hown2 (show 1 + l.length = (UInt8.ofNat (48 + m % 10) :: l).length by rw [List.length_cons]; omega) (show [Value.int .u8 y] ++ celY.row l = celY.row (UInt8.ofNat (48 + m % 10) :: l) by rw [← hy2]; rfl)
        clear hown2 hgr2
        obtain ⟨b2, c2, rfl, hb2, hc2, hc3⟩ := own_bytes hown3 (by simp)
        unfold maxLen at hc3
        go_roundw
        case rel => exact ⟨UInt8.ofNat (48 + m % 10) :: l, -((m : Int) / 10), b2, c2, rfl, rfl, hb2, hc2, by omega, by (repeat (first | with_reducible exact Bel.refl _ | with_reducible assumption | apply Bel.ext | apply Bel.alloc | apply Bel.drew | exact Bel.refl _ | refine Bel.set ?_ (by first | (simp; done) | (simp [go_sem]; done) | omega) _)), by omega, by omega, by omega, by omega, HS, Lib.hid hown3⟩
        case measure => simp only [intOf]; omega
    · subst hx
      have hv := hd.out.1
      rw [show decZ (0 : Int).natAbs = [] from rfl, List.nil_append] at hv
      have hll := hd.out.2.1
      have hcv : (convert 76 9 (.slice (some ⟨b, 0, none⟩) l.length c)).run Tryd.prog (ext w g4) = .ok (.string (textS l)) (ext w g4) :=
        run_convert_bytes_back (ext w g4) 76 9 5 ⟨b, 0, none⟩ c l Tryd.underlying76 Tryd.underlying5 Tryd.underlying9 (fun j hj => hown.out.cells (g := b) rfl j _ (rowY_get hj))
      have hls : (textS l).size = l.length := by simp [textS, ByteArray.size]
      rcases Int.lt_trichotomy n 0 with hn | hn | hn
      · have HV := Lib.hid (H.out.symm.trans (show _ = Value.string (⟨#[45]⟩ ++ textS l) by rw [decZ_itoa_neg hn, hv]; exact congrArg Value.string (ByteArray.mk_append_mk [45] l).symm))
        have hl0 : l.length ≠ 0 := by rw [← hv]; exact decZ_pos (by omega)
        have hl1 : ((l.length : Int) == 0) = false := by simp; intro e; simp [e] at hl0
        clear hv hl0 H hd
        go_wp2
        go_ret
        exact Ret.mk HV.out.symm (by (repeat (first | with_reducible exact Bel.refl _ | with_reducible assumption | apply Bel.ext | apply Bel.alloc | apply Bel.drew | exact Bel.refl _ | refine Bel.set ?_ (by first | (simp; done) | (simp [go_sem]; done) | omega) _)) : Bel _ _)
      · subst hn
        have hl0 : l = [] := hv.symm
        subst hl0
        have HV := Lib.hid (H.out.symm.trans (show _ = Value.string ⟨#[48]⟩ by rw [show Lib.itoa 0 = [48] from by unfold Lib.itoa; simp [Lib.decDigits_one]]; rfl))
        clear hv H hd
        go_wp2
        go_ret
        exact Ret.mk HV.out.symm (by (repeat (first | with_reducible exact Bel.refl _ | with_reducible assumption | apply Bel.ext | apply Bel.alloc | apply Bel.drew | exact Bel.refl _ | refine Bel.set ?_ (by first | (simp; done) | (simp [go_sem]; done) | omega) _)) : Bel _ _)
      · have HV := Lib.hid (H.out.symm.trans (show _ = Value.string (textS l) by rw [decZ_itoa_pos hn, hv]))
        have hl0 : l.length ≠ 0 := by rw [← hv]; exact decZ_pos (by omega)
        have hl1 : ((l.length : Int) == 0) = false := by simp; intro e; simp [e] at hl0
        have hn2 : ¬ n < 0 := by omega
        clear hv hl0 H hd
        go_wp2
        go_ret
        exact Ret.mk HV.out.symm (by (repeat (first | with_reducible exact Bel.refl _ | with_reducible assumption | apply Bel.ext | apply Bel.alloc | apply Bel.drew | exact Bel.refl _ | refine Bel.set ?_ (by first | (simp; done) | (simp [go_sem]; done) | omega) _)) : Bel _ _)
    · obtain ⟨m, rfl⟩ : ∃ m : Nat, x = (m : Int) := ⟨x.natAbs, by omega⟩
      obtain ⟨y, hy⟩ : ∃ y : Int, 48 + (m : Int) % 10 = y := ⟨_, rfl⟩
      have hy2 : ((UInt8.ofNat (48 + m % 10)).toNat : Int) = y := by rw [byte48 _ (by omega)]; omega
      have hy3 : 48 ≤ y := by omega
      have hy4 : y ≤ 57 := by omega
      have hpos : (0 : Int) ≤ m := by omega
      have HS := Lib.hid (decInv_step (k' := ((m : Int) / 10)) (d := m % 10) hd.out (by omega) (by omega) (by omega))
      have hll := HS.out.2.1
      rw [List.length_cons] at hll
      clear hd
      go_wp2_with (at_builtin; refine wpList_append_ext rfl (.tmp 21) (.tmp 22) 76 5 1 1 rfl appY (by decide) w _ 1 [.int .u8 y] rfl (own_lit _ w.heap.size 5 1 [.int .u8 y] 1 rfl ?_ (by unfold maxLen; omega)) ⟨b, 0, none⟩ l.length c (celY.row l) rfl (rowY_len l) ?_ (fun u hu => by unfold Cel.row at hu; obtain ⟨x, _, hx⟩ := List.mem_flatMap.1 hu; exact celY.one x u hx) ?_ (by omega) (by omega) ?_; (focus (exact bel_size (by (repeat (first | with_reducible exact Bel.refl _ | with_reducible assumption | apply Bel.ext | apply Bel.alloc | apply Bel.drew | exact Bel.refl _ | refine Bel.set ?_ (by first | (simp; done) | (simp [go_sem]; done) | omega) _)) : Bel w _))); (focus (intro i u hi; have h9 := hown.out.cells (g := b) rfl i u hi; rw [addr_add, Nat.zero_add] at h9 ⊢; rw [Below.cell (by (repeat (first | with_reducible exact Bel.refl _ | with_reducible assumption | apply Bel.ext | apply Bel.alloc | apply Bel.drew | exact Bel.refl _ | refine Bel.set ?_ (by first | (simp; done) | (simp [go_sem]; done) | omega) _)) : Bel _ _) (p := ⟨b, i, none⟩) (hown.out.lt b rfl).2]; exact h9)); (focus (repeat (first | with_reducible exact Bel.refl _ | with_reducible assumption | apply Bel.ext | apply Bel.alloc | apply Bel.drew | exact Bel.refl _ | refine Bel.set ?_ (by first | (simp; done) | (simp [go_sem]; done) | omega) _))); intro v2 g2 hown2 hgr2)
      have hown3 := own_castY hown2 (show 1 + l.length = (UInt8.ofNat (48 + m % 10) :: l).length by rw [List.length_cons]; omega) (show [Value.int .u8 y] ++ celY.row l = celY.row (UInt8.ofNat (48 + m % 10) :: l) by rw [← hy2]; rfl)
      clear hown2 hgr2
      obtain ⟨b2, c2, rfl, hb2, hc2, hc3⟩ := own_bytes hown3 (by simp)
      unfold maxLen at hc3
      go_roundw
      case rel => exact ⟨UInt8.ofNat (48 + m % 10) :: l, ((m : Int) / 10), b2, c2, rfl, rfl, hb2, hc2, by omega, by (repeat (first | with_reducible exact Bel.refl _ | with_reducible assumption | apply Bel.ext | apply Bel.alloc | apply Bel.drew | exact Bel.refl _ | refine Bel.set ?_ (by first | (simp; done) | (simp [go_sem]; done) | omega) _)), by omega, by omega, by omega, by omega, HS, Lib.hid hown3⟩
      case measure => simp only [intOf]; omega
end Go.Proofs.YtdneffnnpjgnbacDoor
