/- Rows of bools: making, joining, listing; what the reference's functions on bins return. -/
import Derived.Test.YtpfemaonipcbgaaBins
namespace Go.Proofs.Ytpfemaonipcbgaa
open Go.RowKit

def celB : Cel Bool := ⟨1, fun x => [.bool x], fun _ => rfl, by decide, fun _ u h => by simp at h; subst h; rfl⟩
theorem Sl.atB {w : World} {b off n c : Nat} {xs : List Bool} (h : Sl celB w (some ⟨b, off, none⟩) n c xs) {k : Nat} (hk : k < n) :
    ∃ x, Hid (xs[k]? = some x) ∧ w.cell? ⟨b, off + k, none⟩ = some (.bool x) := by
  obtain ⟨x, hx⟩ := h.get hk
  obtain ⟨b', off', ha, hb, hc⟩ := h.at_ (by omega)
  cases ha
  have := hc k x hx 0 _ rfl
  exact ⟨x, hx, by simpa [celB] using this⟩
theorem appB : AppF Try.prog 62 4 1 1 := appF_of (z := .bool false) Try.underlying62 (by kernel_rfl) rfl
theorem made_one (z : Value) (hz : z.cells = #[z]) (n : Nat) : (madeCells z.cells n).toList = List.replicate n z := by
  rw [hz]; unfold madeCells
  simp [Nat.mod_one, List.map_const']
/-- 'make([]T, n)', T of one cell -/
theorem wpList_make_fill {P : Program} {ops : Array Oper} {rest : List Oper} {o : Oper} {a : Act} {X : World} {Q : Exit → Act → World → Prop}
    (hg : o.guard = none) (l c : Operand) (t e : TypeId) (bytes : Nat) (hop : o.op = Op.makeSlice t l c) (hu : P.underlying t = some (.slice e)) (z : Value) (hz : z.cells = #[z]) (hI : (P.info? e).map (fun i => (i.zero, i.size, i.bytes)) = some (some z, 1, bytes)) (n : Nat) (hl : a.eval l = .int .i64 (n : Int)) (hc : a.eval c = .int .i64 (n : Int))
    (hn : n ≤ 1000000000) (hby : bytes ≤ 100)
    (hK : ∀ g, (ext X g).ownsRow X.heap.size e 1 (.slice (some ⟨X.heap.size, 0, none⟩) n n) n (List.replicate n z) → wpList P ops Q rest (a.put o.dst (.slice (some ⟨X.heap.size, 0, none⟩) n n)) (ext X g)) :
    wpList P ops Q (o :: rest) a X := by
  obtain ⟨i, hi, hz0, hz1, hz2⟩ := info_parts hI
  refine wpList_make_full X hg l c t hop X.heap.size e i z 1 hu hi hz0 hz1 .i64 .i64 (n : Int) (n : Int) n hl hc rfl rfl ?_ (by unfold maxLen; omega) (Nat.le_refl _) fun w' ho hgr => ?_
  · rw [hz2]; exact Nat.le_trans (Nat.mul_le_mul hby hn) (by decide)
  · have hb : Bel X w' := Below.grown (Below.refl _ _) hgr (Nat.le_refl _) (fun k hk => by cases hk)
    rw [Nat.mul_one, made_one z hz] at ho
    have := hK w' (by rw [ext_of hb]; exact ho)
    rw [ext_of hb] at this; exact this
def mapB (f : Nat → Bool) (n : Nat) : List Bool := (List.range n).map f
theorem mapB_len (f : Nat → Bool) (n : Nat) : (mapB f n).length = n := by simp [mapB]
theorem mapB_get {f : Nat → Bool} {n k : Nat} {x : Bool} (h : (mapB f n)[k]? = some x) : x = f k := by
  unfold mapB at h
  rw [List.getElem?_map] at h
  have hk : k < n := by
    by_cases c : k < n
    · exact c
    · rw [List.getElem?_eq_none (by simp; omega)] at h; cases h
  rw [List.getElem?_range hk] at h
  simpa using h.symm
theorem mapB_succ (f : Nat → Bool) (n : Nat) : mapB f (n + 1) = mapB f n ++ [f n] := by simp [mapB, List.range_succ]
theorem mapB_congr {f g : Nat → Bool} {n : Nat} (h : ∀ i, i < n → f i = g i) : mapB f n = mapB g n := List.map_congr_left fun i hi => h i (List.mem_range.1 hi)
theorem rep_false (n : Nat) : List.replicate n (Value.bool false) = celB.row (mapB (fun _ => false) n) := by
  induction n with
  | zero => rfl
  | succ n ih => rw [List.replicate_succ', ih, mapB_succ, Cel.row_append, Cel.row_one]; rfl
set_option maxHeartbeats 1000000 in
theorem l16Bins_c (e p n : Int) (u : Value) (xs : List (Int × Int)) (w : World) (hu : Rd cel2 w u xs) :
    Calls Try.prog 40 #[.agg #[.int .i64 e, .int .i64 p], u, .int .i64 n] w (Ret (.int .i64 (codeB e p n xs)) w) := by
  refine hide_ret fun v H => ?_
  have VC := Lib.hid (fun w hu => l16Code_c e p u xs w hu)
  have VI := Lib.hid (fun w => l00In_c n 1 50 w)
  unfold codeB fitsI at H
  unfold fitsI at VC
  rcases h1 : ephB e p with _ | _ <;> rcases h2 : windowsB xs with _ | _ <;> rcases h3 : inB n 1 50 with _ | _ <;> by_cases h4 : p < n <;> simp only [h1, h2, h3, h4, Bool.not_true, Bool.not_false, Bool.true_or, Bool.or_true, Bool.false_or, Bool.or_false, Bool.true_and, Bool.and_true, Bool.false_and, Bool.and_false, if_true, if_false, Bool.false_eq_true, ne_eq, not_false_eq_true, not_true_eq_false] at H VC VI
  all_goals
    try simp at H
    clear h1 h2 h3
    go_enter Try.func40, Try.ntmps40
    go_wp2_with (first | (go_at_call 29; refine Calls.mono (VC.out _ (hu.bel ?_)) ?_; (focus (repeat (first | with_reducible exact Bel.refl _ | with_reducible assumption | apply Bel.ext | apply Bel.alloc | apply Bel.drew | exact Bel.refl _))); rintro ee ww ⟨rfl, _, rfl⟩) | (go_at_call 54; refine Calls.mono (VI.out _) ?_; rintro ee ww ⟨rfl, rfl⟩))
    go_ret
    refine Ret.mk ?_ (?_ : Bel _ _)
    · exact H.out
    · (repeat (first | with_reducible exact Bel.refl _ | with_reducible assumption | apply Bel.ext | apply Bel.alloc | apply Bel.drew | exact Bel.refl _ | refine Bel.set ?_ (by first | (simp; done) | (simp [go_sem]; done) | omega) _))
set_option maxHeartbeats 1000000 in
theorem l16List_c (f : Nat → Bool) (n : Nat) (hn : n ≤ 1000) (b : Bool) (u : Value) (w : World) (hu : Rd celB w u (mapB f n)) :
    Calls Try.prog 41 #[u, .bool b] w (RetRow 2 1 (fun v => v) (idxL (fun i => f i == b) n).length (celI.row (idxL (fun i => f i == b) n)) w) := by
  generalize hR : RetRow _ _ _ _ _ w = R
  have HR := Lib.hid hR
  clear hR
  obtain ⟨a, m, c, rfl, hs⟩ := hu.sl
  have hcap := hs.le; have hmax := hs.cap
  unfold maxLen at hmax
  have hm := hs.len
  rw [mapB_len] at hm
  subst hm
  go_enter Try.func41, Try.ntmps41
  go_wp2
  go_loopw [5, 6] (fun o i wr => ∃ k : Nat, k ≤ m ∧ i = .int .i64 k ∧ Bel w wr ∧ Hid (wr.ownsRow w.heap.size 2 1 o (idxL (fun i => f i == b) k).length (celI.row (idxL (fun i => f i == b) k)))) (fun _ i _ => m - (intOf i).toNat)
  case atStart => exact ⟨0, by omega, by go_num, by (repeat (first | with_reducible exact Bel.refl _ | with_reducible assumption | apply Bel.ext | apply Bel.alloc | apply Bel.drew | exact Bel.refl _ | refine Bel.set ?_ (by first | (simp; done) | (simp [go_sem]; done) | omega) _)), Lib.hid (by refine own_empty _ _ _ _ ?_; exact (by (repeat (first | with_reducible exact Bel.refl _ | with_reducible assumption | apply Bel.ext | apply Bel.alloc | apply Bel.drew | exact Bel.refl _ | refine Bel.set ?_ (by first | (simp; done) | (simp [go_sem]; done) | omega) _)) : Bel w _).size)⟩
  case round =>
    obtain ⟨k, hk, rfl, hbel, hown⟩ := hrel
    obtain ⟨g', rfl⟩ := ext_ex hbel
    by_cases hlt : k < m
    · obtain ⟨bb, off, rfl, hb⟩ := hs.base hlt
      obtain ⟨x, hx, hc⟩ := hs.atB hlt
      have hfx := mapB_get hx.out
      have hfl := idxL_len (fun i => f i == b) k
      rcases hq : (x == b) with _ | _
      · have HF := Lib.hid (idxL_neg (p := fun i => f i == b) (n := k) (by rw [← hfx]; exact hq))
        have HQ := Lib.hid hq
        clear hfx
        generalize idxL (fun i => f i == b) k = ys at *
        go_wp2
        go_roundw
        case rel =>
          refine ⟨k + 1, by omega, by go_num, by (repeat (first | with_reducible exact Bel.refl _ | with_reducible assumption | apply Bel.ext | apply Bel.alloc | apply Bel.drew | exact Bel.refl _ | refine Bel.set ?_ (by first | (simp; done) | (simp [go_sem]; done) | omega) _)), Lib.hid ?_⟩
          rw [HF.out]; exact own_bel hown.out (by (repeat (first | with_reducible exact Bel.refl _ | with_reducible assumption | apply Bel.ext | apply Bel.alloc | apply Bel.drew | exact Bel.refl _ | refine Bel.set ?_ (by first | (simp; done) | (simp [go_sem]; done) | omega) _)))
        case measure => simp [intOf]; omega
      · have HF := Lib.hid (idxL_pos (p := fun i => f i == b) (n := k) (by rw [← hfx]; exact hq))
        have HQ := Lib.hid hq
        clear hfx
        generalize idxL (fun i => f i == b) k = ys at *
        go_wp2_with (first | (at_builtin; refine wpList_append_new rfl (.tmp 20) (.tmp 22) 28 2 1 8 rfl appIntW (by decide) w _ _ _ 1 [.int .i64 (k : Int)] rfl (by first | with_reducible rfl | (simp [go_sem]; done)) rfl (by intro u hu; simp at hu; first | (subst hu; rfl) | (rcases hu with rfl | rfl <;> rfl) | (rcases hu with rfl | rfl | rfl <;> rfl)) (own_bel hown.out ?_) ?_ (by omega) (by omega) ?_; (focus (repeat (first | with_reducible exact Bel.refl _ | with_reducible assumption | apply Bel.ext | apply Bel.alloc | apply Bel.drew | exact Bel.refl _))); (focus (repeat (first | with_reducible exact Bel.refl _ | with_reducible assumption | apply Bel.ext | apply Bel.alloc | apply Bel.drew | exact Bel.refl _))); intro v2 g2 hown2 hgr2))
        go_roundw
        case rel =>
          refine ⟨k + 1, by omega, by go_num, by (repeat (first | with_reducible exact Bel.refl _ | with_reducible assumption | apply Bel.ext | apply Bel.alloc | apply Bel.drew | exact Bel.refl _ | refine Bel.set ?_ (by first | (simp; done) | (simp [go_sem]; done) | omega) _)), Lib.hid ?_⟩
          rw [HF.out, Cel.row_append, Cel.row_one, List.length_append]; exact hown2
        case measure => simp [intOf]; omega
    · have hk' : k = m := by omega
      subst hk'
      go_wp2
      rw [← HR.out]
      exact RetRow.mk' rfl (by (repeat (first | with_reducible exact Bel.refl _ | with_reducible assumption | apply Bel.ext | apply Bel.alloc | apply Bel.drew | exact Bel.refl _ | refine Bel.set ?_ (by first | (simp; done) | (simp [go_sem]; done) | omega) _)) : Bel _ _) hown.out
set_option maxHeartbeats 1000000 in
theorem l16Join_c (f h : Nat → Bool) (n : Nat) (hn : n ≤ 1000) (u v : Value) (w : World) (hu : Rd celB w u (mapB f n)) (hv : Rd celB w v (mapB h n)) :
    Calls Try.prog 49 #[u, v] w (RetRow 4 1 (fun v => v) n (celB.row (mapB (fun i => f i || h i) n)) w) := by
  generalize hR : RetRow _ _ _ _ _ w = R
  have HR := Lib.hid hR
  clear hR
  obtain ⟨a, m, c, rfl, hs⟩ := hu.sl
  obtain ⟨a2, m2, c2, rfl, hs2⟩ := hv.sl
  have hcap := hs.le; have hmax := hs.cap
  have hcap2 := hs2.le; have hmax2 := hs2.cap
  unfold maxLen at hmax hmax2
  have hm := hs.len
  rw [mapB_len] at hm
  have hm2 := hs2.len
  rw [mapB_len] at hm2
  subst hm hm2
  go_enter Try.func49, Try.ntmps49
  go_wp2
  go_loopw [5, 6] (fun o i wr => ∃ k : Nat, k ≤ m2 ∧ i = .int .i64 k ∧ Bel w wr ∧ Hid (wr.ownsRow w.heap.size 4 1 o k (celB.row (mapB (fun i => f i || h i) k)))) (fun _ i _ => m2 - (intOf i).toNat)
  case atStart => exact ⟨0, by omega, by go_num, by (repeat (first | with_reducible exact Bel.refl _ | with_reducible assumption | apply Bel.ext | apply Bel.alloc | apply Bel.drew | exact Bel.refl _ | refine Bel.set ?_ (by first | (simp; done) | (simp [go_sem]; done) | omega) _)), Lib.hid (by refine own_empty _ _ _ _ ?_; exact (by (repeat (first | with_reducible exact Bel.refl _ | with_reducible assumption | apply Bel.ext | apply Bel.alloc | apply Bel.drew | exact Bel.refl _ | refine Bel.set ?_ (by first | (simp; done) | (simp [go_sem]; done) | omega) _)) : Bel w _).size)⟩
  case round =>
    obtain ⟨k, hk, rfl, hbel, hown⟩ := hrel
    obtain ⟨g', rfl⟩ := ext_ex hbel
    by_cases hlt : k < m2
    · obtain ⟨bb, off, rfl, hb⟩ := hs.base hlt
      obtain ⟨bb2, off2, rfl, hb2⟩ := hs2.base hlt
      obtain ⟨x, hx, hc⟩ := hs.atB hlt
      obtain ⟨y, hy, hd⟩ := hs2.atB hlt
      have HM := Lib.hid (mapB_succ (fun i => f i || h i) k)
      rw [← mapB_get hx.out, ← mapB_get hy.out] at HM
      clear hx hy
      cases x
      all_goals
        go_wp2_with (first | (at_builtin; refine wpList_append_new rfl (.tmp 14) (.tmp 25) 62 4 1 1 rfl appB (by decide) w _ _ _ 1 [.bool _] rfl (by first | with_reducible rfl | (simp [go_sem]; done)) rfl (by intro u hu; simp at hu; first | (subst hu; rfl) | (rcases hu with rfl | rfl <;> rfl) | (rcases hu with rfl | rfl | rfl <;> rfl)) (own_bel hown.out ?_) ?_ (by omega) (by omega) ?_; (focus (repeat (first | with_reducible exact Bel.refl _ | with_reducible assumption | apply Bel.ext | apply Bel.alloc | apply Bel.drew | exact Bel.refl _))); (focus (repeat (first | with_reducible exact Bel.refl _ | with_reducible assumption | apply Bel.ext | apply Bel.alloc | apply Bel.drew | exact Bel.refl _))); intro v2 g2 hown2 hgr2))
        go_roundw
        case rel =>
          refine ⟨k + 1, by omega, by go_num, by (repeat (first | with_reducible exact Bel.refl _ | with_reducible assumption | apply Bel.ext | apply Bel.alloc | apply Bel.drew | exact Bel.refl _ | refine Bel.set ?_ (by first | (simp; done) | (simp [go_sem]; done) | omega) _)), Lib.hid ?_⟩
          rw [HM.out, Cel.row_append, Cel.row_one]; exact hown2
        case measure => simp [intOf]; omega
    · have hk' : k = m2 := by omega
      subst hk'
      go_wp2
      rw [← HR.out]
      exact RetRow.mk' rfl (by (repeat (first | with_reducible exact Bel.refl _ | with_reducible assumption | apply Bel.ext | apply Bel.alloc | apply Bel.drew | exact Bel.refl _ | refine Bel.set ?_ (by first | (simp; done) | (simp [go_sem]; done) | omega) _)) : Bel _ _) hown.out
end Go.Proofs.Ytpfemaonipcbgaa
