/- Wide numbers: what the reference's functions on them return. -/
import Derived.Test.YtdneffnnpjgnbaaBase
import Derived.Test.YtdneffnnpjgnbaaRow
import Derived.Test.YtdneffnnpjgnbaaWidePlain
namespace Go.Proofs.Ytdneffnnpjgnbaa
open Go.RowKit

def mapI (f : Nat → Int) (n : Nat) : List Int := (List.range n).map f
theorem mapI_len (f : Nat → Int) (n : Nat) : (mapI f n).length = n := by simp [mapI]
theorem mapI_get (f : Nat → Int) {n k : Nat} (h : k < n) : (mapI f n)[k]? = some (f k) := by unfold mapI; rw [List.getElem?_map, List.getElem?_range h]; rfl
theorem mapI_succ (f : Nat → Int) (n : Nat) : mapI f (n + 1) = mapI f n ++ [f n] := by simp [mapI, List.range_succ]
theorem mapI_congr {f g : Nat → Int} {n : Nat} (h : ∀ i, i < n → f i = g i) : mapI f n = mapI g n := List.map_congr_left fun i hi => h i (List.mem_range.1 hi)
theorem mapI_upd (f : Nat → Int) (n : Nat) (d : Int) : mapI (upd f n d) (n + 1) = mapI f n ++ [d] := by
  rw [mapI_succ, upd_same, mapI_congr (f := upd f n d) (g := f) fun i hi => upd_ne f d (by omega)]
theorem row_mapI (f : Nat → Int) (n : Nat) : celI.row (mapI f n) = (List.range n).map (fun i => Value.int .i64 (f i)) := by
  unfold Cel.row mapI
  rw [List.flatMap_map]
  show (List.range n).flatMap (fun i => [Value.int .i64 (f i)]) = _
  induction List.range n with
  | nil => rfl
  | cons a r ih => rw [List.flatMap_cons, ih]; rfl
theorem set_mapI (f : Nat → Int) {n j : Nat} (hj : j < n) (d : Int) : (celI.row (mapI f n)).set j (.int .i64 d) = celI.row (mapI (upd f j d) n) := by
  rw [row_mapI, row_mapI]
  refine List.ext_getElem? fun i => ?_
  rw [List.getElem?_set, List.getElem?_map, List.getElem?_map]
  by_cases h : j = i
  · subst h
    simp [hj, upd_same]
  · rw [if_neg h]
    rcases Nat.lt_or_ge i n with c | c
    · simp [List.getElem?_range c, upd_ne f d (Ne.symm h)]
    · simp [List.getElem?_eq_none, c]
theorem rep_zero (n : Nat) : List.replicate n (Value.int .i64 0) = celI.row (mapI (fun _ => 0) n) := by
  rw [row_mapI, List.map_const', List.length_range]
theorem Sl.atM {w : World} {b off n c : Nat} {f : Nat → Int} {N : Nat} (h : Sl celI w (some ⟨b, off, none⟩) n c (mapI f N)) {k : Nat} (hk : k < n) : w.cell? ⟨b, off + k, none⟩ = some (.int .i64 (f k)) := by
  obtain ⟨x, hx, hc⟩ := h.at1 hk
  have hl := h.len
  rw [mapI_len] at hl
  have := hx.out
  rw [mapI_get f (by omega)] at this
  cases this
  exact hc
def WFd (f : Nat → Int) (n : Nat) (val : Int) : Prop := digs f ∧ (∀ i, n ≤ i → f i = 0) ∧ wsum f n = val
/-- a call that hands back a wide number of its own -/
def RetWide (e : TypeId) (val : Int) (m : Nat) (w : World) (en : Ending) (w' : World) : Prop :=
  ∃ (f : Nat → Int) (n : Nat) (v : Value) (g : World), en = .returned v ∧ w' = ext w g ∧ (ext w g).ownsRow w.heap.size e 1 v n (celI.row (mapI f n)) ∧ Hid (WFd f n val) ∧ n ≤ m
theorem RetWide.mk' {e : TypeId} {val : Int} {m : Nat} {w w' : World} {v : Value} {f : Nat → Int} {n : Nat} (hb : Bel w w') (ho : w'.ownsRow w.heap.size e 1 v n (celI.row (mapI f n))) (hf : WFd f n val) (hn : n ≤ m) : RetWide e val m w (.returned v) w' :=
  ⟨f, n, v, w', rfl, (ext_of hb).symm, by rw [ext_of hb]; exact ho, Lib.hid hf, hn⟩
theorem own_castW {w : World} {B : Nat} {e : TypeId} {size : Nat} {v : Value} {n m : Nat} {cs ds : List Value} (h : w.ownsRow B e size v n cs) (hn : n = m) (hc : cs = ds) : w.ownsRow B e size v m ds := by subst hn hc; exact h
theorem appIntV : AppF Try.prog 57 2 1 8 := appF_of (z := .int .i64 0) Try.underlying57 (by kernel_rfl) rfl
theorem made_oneV (z : Value) (hz : z.cells = #[z]) (n : Nat) : (madeCells z.cells n).toList = List.replicate n z := by
  rw [hz]; unfold madeCells
  simp [Nat.mod_one, List.map_const']
theorem wpList_make_fillV {P : Program} {ops : Array Oper} {rest : List Oper} {o : Oper} {a : Act} {X : World} {Q : Exit → Act → World → Prop}
    (hg : o.guard = none) (l c : Operand) (t e : TypeId) (bytes : Nat) (hop : o.op = Op.makeSlice t l c) (hu : P.underlying t = some (.slice e)) (z : Value) (hz : z.cells = #[z]) (hI : (P.info? e).map (fun i => (i.zero, i.size, i.bytes)) = some (some z, 1, bytes)) (n : Nat) (hl : a.eval l = .int .i64 (n : Int)) (hc : a.eval c = .int .i64 (n : Int))
    (hn : n ≤ 1000000000) (hby : bytes ≤ 100)
    (hK : ∀ g, (ext X g).ownsRow X.heap.size e 1 (.slice (some ⟨X.heap.size, 0, none⟩) n n) n (List.replicate n z) → wpList P ops Q rest (a.put o.dst (.slice (some ⟨X.heap.size, 0, none⟩) n n)) (ext X g)) :
    wpList P ops Q (o :: rest) a X := by
  obtain ⟨i, hi, hz0, hz1, hz2⟩ := info_parts hI
  refine wpList_make_full X hg l c t hop X.heap.size e i z 1 hu hi hz0 hz1 .i64 .i64 (n : Int) (n : Int) n hl hc rfl rfl ?_ (by unfold maxLen; omega) (Nat.le_refl _) fun w' ho hgr => ?_
  · rw [hz2]; exact Nat.le_trans (Nat.mul_le_mul hby hn) (by decide)
  · have hb : Bel X w' := Below.grown (Below.refl _ _) hgr (Nat.le_refl _) (fun k hk => by cases hk)
    rw [Nat.mul_one, made_oneV z hz] at ho
    have := hK w' (by rw [ext_of hb]; exact ho)
    rw [ext_of hb] at this; exact this
/-! making one of a number -/
def wideInv (n : Int) (f : Nat → Int) (k : Nat) (r : Int) : Prop := digs f ∧ (∀ i, k ≤ i → f i = 0) ∧ wsum f k + r * 1000000000 ^ k = n ∧ r < 1000000000 ^ (3 - k) ∧ k ≤ 3
theorem wide_start {n : Int} (h : n ≤ 9000000000000000000) : wideInv n (fun _ => 0) 0 n := by
  refine ⟨fun i => ⟨by simp, by simp⟩, fun _ _ => rfl, ?_, ?_, by omega⟩
  · simp [wsum]
  · show n < 1000000000 ^ 3; omega
theorem wide_step {n : Int} {f : Nat → Int} {k : Nat} {r : Int} (h : wideInv n f k r) (hr : 0 < r) : wideInv n (upd f k (r % 1000000000)) (k + 1) (r / 1000000000) := by
  obtain ⟨h1, h2, h3, h4, h5⟩ := h
  refine ⟨upd_digs h1 (by omega) (by omega), fun i hi => by rw [upd_ne f _ (by omega)]; exact h2 i (by omega), ?_, ?_, ?_⟩
  · rw [wsum, upd_same, wsum_congr (f := upd f k (r % 1000000000)) (g := f) fun i hi => upd_ne f _ (by omega), Int.pow_succ]
    have hx := Int.emod_add_mul_ediv r 1000000000
    generalize r % 1000000000 = a at *
    generalize r / 1000000000 = b at *
    rw [← h3, ← hx]
    grind
  · obtain rfl | rfl | rfl | rfl : k = 0 ∨ k = 1 ∨ k = 2 ∨ k = 3 := by omega
    · have : r < 1000000000000000000000000000 := h4
      show r / 1000000000 < 1000000000000000000; omega
    · have : r < 1000000000000000000 := h4
      show r / 1000000000 < 1000000000; omega
    · have : r < 1000000000 := h4
      show r / 1000000000 < 1; omega
    · have : r < 1 := h4
      omega
  · obtain rfl | hk : k = 3 ∨ k ≤ 2 := by omega
    · have : r < 1 := h4
      omega
    · omega
theorem wide_end {n : Int} {f : Nat → Int} {k : Nat} (h : wideInv n f k 0) : WFd f k n := ⟨h.1, h.2.1, by have := h.2.2.1; omega⟩
set_option maxHeartbeats 2000000 in
theorem l12Wide_c (n : Int) (h0 : 0 ≤ n) (h1 : n ≤ 9000000000000000000) (w : World) : Calls Try.prog 35 #[.int .i64 n] w (RetWide 2 n 3 w) := by
  generalize hR : RetWide 2 n 3 w = R
  have HR := Lib.hid hR
  clear hR
  go_enter Try.func35, Try.ntmps35
  go_wp2
  go_loopw [0, 3] (fun x o wr => ∃ (k : Nat) (f : Nat → Int) (r : Int), x = .int .i64 r ∧ 0 ≤ r ∧ r ≤ 9000000000000000000 ∧ k ≤ 3 ∧ Bel w wr ∧ Hid (wideInv n f k r) ∧ Hid (wr.ownsRow w.heap.size 2 1 o k (celI.row (mapI f k)))) (fun x _ _ => (intOf x).toNat)
  case atStart => exact ⟨0, fun _ => 0, n, rfl, h0, h1, by omega, by (repeat (first | with_reducible exact Bel.refl _ | with_reducible assumption | apply Bel.ext | apply Bel.alloc | apply Bel.drew | exact Bel.refl _ | refine Bel.set ?_ (by first | (simp; done) | (simp [go_sem]; done) | omega) _)), Lib.hid (wide_start h1), Lib.hid (own_lit _ _ 2 1 [] 0 rfl (Nat.le_refl _) (by unfold maxLen; omega))⟩
  case round =>
    obtain ⟨k, f, r, rfl, r0, r1, hk, hbel, hi, hown⟩ := hrel
    obtain ⟨g4, rfl⟩ := ext_ex hbel
    by_cases hr : 0 < r
    · have HS := Lib.hid (wide_step hi.out hr)
      have e1 : 0 ≤ r % 1000000000 := by omega
      have e2 : r % 1000000000 < 1000000000 := by omega
      go_wp2_with (first | (at_builtin; refine wpList_append_new rfl (.tmp 7) (.tmp 10) 57 2 1 8 rfl appIntV (by decide) w _ _ _ 1 [.int .i64 (r % 1000000000)] rfl (by first | with_reducible rfl | (simp [go_sem]; done)) rfl (by intro u hu; simp at hu; first | (subst hu; rfl) | (rcases hu with rfl | rfl <;> rfl) | (rcases hu with rfl | rfl | rfl <;> rfl)) (own_bel hown.out ?_) ?_ (by omega) (by omega) ?_; (focus (repeat (first | with_reducible exact Bel.refl _ | with_reducible assumption | apply Bel.ext | apply Bel.alloc | apply Bel.drew | exact Bel.refl _))); (focus (repeat (first | with_reducible exact Bel.refl _ | with_reducible assumption | apply Bel.ext | apply Bel.alloc | apply Bel.drew | exact Bel.refl _))); intro v2 g2 hown2 hgr2))
      go_roundw
      case rel =>
        refine ⟨k + 1, upd f k (r % 1000000000), r / 1000000000, rfl, by omega, by omega, HS.out.2.2.2.2, by (repeat (first | with_reducible exact Bel.refl _ | with_reducible assumption | apply Bel.ext | apply Bel.alloc | apply Bel.drew | exact Bel.refl _ | refine Bel.set ?_ (by first | (simp; done) | (simp [go_sem]; done) | omega) _)), HS, Lib.hid ?_⟩
        rw [mapI_upd, Cel.row_append, Cel.row_one]; exact hown2
      case measure => simp [intOf]; omega
    · have e : r = 0 := by omega
      subst e
      go_wp2
      rw [← HR.out]
      exact RetWide.mk' (by (repeat (first | with_reducible exact Bel.refl _ | with_reducible assumption | apply Bel.ext | apply Bel.alloc | apply Bel.drew | exact Bel.refl _ | refine Bel.set ?_ (by first | (simp; done) | (simp [go_sem]; done) | omega) _))) hown.out (wide_end hi.out) hk
end Go.Proofs.Ytdneffnnpjgnbaa
