/- The longest windows of the times in some windows: impl.longest. -/
import Derived.BigRegion
import Derived.Test.YtdneffnnpjgnbabSorted
namespace Go.Proofs.Ytdneffnnpjgnbab
open Go.RowKit

def longL' (zs : List (Int × Int)) : List (Int × Int) := joinL (zs.mergeSort fun p q => decide (p.1 ≤ q.1))
theorem okW_perm {ys zs : List (Int × Int)} (hp : ys.Perm zs) (h : okW zs) : okW ys := fun p hp' => h p (hp.mem_iff.1 hp')
theorem sortL_perm (zs : List (Int × Int)) : (zs.mergeSort fun p q => decide (p.1 ≤ q.1)).Perm zs := List.mergeSort_perm _ _
theorem sortL_asc (zs : List (Int × Int)) : ascW (zs.mergeSort fun p q => decide (p.1 ≤ q.1)) := by
  have := List.pairwise_mergeSort (le := fun p q : Int × Int => decide (p.1 ≤ q.1)) (fun a b c h1 h2 => by simp at *; omega) (fun a b => by simp; omega) zs
  exact this.imp (fun h => by simpa using h)
theorem longL_law {zs : List (Int × Int)} (h : okW zs) : canon (longL' zs) ∧ ∀ t, inW (longL' zs) t ↔ inW zs t := by
  obtain ⟨h1, h2⟩ := joinL_law (okW_perm (sortL_perm zs) h) (sortL_asc zs)
  exact ⟨h1, fun t => (h2 t).trans (inW_same (fun p => (sortL_perm zs).mem_iff) t)⟩
theorem longL_of {ys zs : List (Int × Int)} (hp : ys.Perm zs) (ha : ascW ys) (h : okW zs) : joinL ys = longL' zs := by
  obtain ⟨h1, h2⟩ := joinL_law (okW_perm hp h) ha
  obtain ⟨h3, h4⟩ := longL_law h
  exact canon_one h1 h3 fun t => ((h2 t).trans (inW_same (fun p => hp.mem_iff) t)).trans (h4 t).symm
theorem longL_len' (zs : List (Int × Int)) : (longL' zs).length ≤ zs.length := by
  have := joinL_len (zs.mergeSort fun p q => decide (p.1 ≤ q.1))
  rw [(sortL_perm zs).length_eq] at this
  exact this

theorem row_base {w : World} {B : Nat} {e : TypeId} {v : Value} {n : Nat} {cs : List Value} {size : Nat} (h : w.ownsRow B e size v n cs) (h0 : 0 < n) : ∃ b c, v = .slice (some ⟨b, 0, none⟩) n c ∧ B ≤ b ∧ b < w.heap.size ∧ n ≤ c ∧ c ≤ maxLen := by
  have hl := h.lt
  rcases h.2 with ⟨rfl, rfl⟩ | ⟨b, c, cur, rfl, hb, hg, h1, h2, _⟩
  · omega
  · exact ⟨b, c, rfl, hb, (hl b rfl).2, h1, h2⟩
theorem row_at2 {w : World} {B b : Nat} {e : TypeId} {n c : Nat} {xs : List (Int × Int)} (h : w.ownsRow B e 2 (.slice (some ⟨b, 0, none⟩) n c) n (cel2.row xs)) {k : Nat} {x y : Int} (hx : xs[k]? = some (x, y)) :
    w.cell? ⟨b, k * 2, none⟩ = some (.int .i64 x) ∧ w.cell? ⟨b, k * 2 + 1, none⟩ = some (.int .i64 y) ∧ ∀ j, w.frozen? ⟨b, j, none⟩ = false := by
  have hc := h.cells (g := b) rfl
  have g0 := hc _ _ (cel2.row_get xs k (x, y) 0 _ hx rfl)
  have g1 := hc _ _ (cel2.row_get xs k (x, y) 1 _ hx rfl)
  rw [addr_add, Nat.zero_add] at g0 g1
  refine ⟨g0, g1, fun j => ?_⟩
  rcases h.2 with ⟨h0, _⟩ | ⟨b', c', cur, hv, hb, hg, _⟩
  · cases h0
  · cases hv; exact frozen_of_row _ b j cur e hg
/-- a cell of row i put anew -/
theorem mem_store {W Y : World} {L : List Ent} (h : Mem W Y L) (i : Nat) {b n c size : Nat} {e : TypeId} {cs : List Value} (hi : L[i]? = some ⟨.slice (some ⟨b, 0, none⟩) n c, e, size, n, cs⟩) (j : Nat) (u : Value) :
    Mem W (Y.setCell ⟨b, j, none⟩ u) (L.set i ⟨.slice (some ⟨b, 0, none⟩) n c, e, size, n, cs.set j u⟩) :=
  mem_put h i hi _ (own_stored (h.own i _ hi) j u) (set_grown Y b j u) (Bel.set h.bel ((h.own i _ hi).lt b rfl).1 u) (.inl rfl)
theorem row_set_to (i : List (Int × Int)) (l : Int × Int) (z : Int) : (cel2.row (i ++ [l])).set (i.length * 2 + 1) (.int .i64 z) = cel2.row (i ++ [(l.1, z)]) := by
  rw [Cel.row_append, Cel.row_append, Cel.row_one, Cel.row_one]
  have hl : (cel2.row i).length = i.length * 2 := cel2.row_len i
  rw [List.set_append_right _ _ (by omega), hl, show i.length * 2 + 1 - i.length * 2 = 1 by omega]
  rfl

def bdW (zs : List (Int × Int)) : Prop := ∀ p ∈ zs, -100000000 ≤ p.1 ∧ p.1 ≤ 100000000 ∧ -100000000 ≤ p.2 ∧ p.2 ≤ 100000000
theorem bdW_addL {o : List (Int × Int)} {w : Int × Int} (h : bdW o) (hw : bdW [w]) : bdW (addL o w) := by
  have hw' := hw w (by simp)
  rcases snoc_cases o with rfl | ⟨i, l, rfl⟩
  · rw [addL_nil]; exact hw
  · have hl := h l (by simp)
    by_cases hc : w.1 ≤ l.2 + 1
    · rw [addL_in hc]
      intro p hp
      rcases List.mem_append.1 hp with h1 | h1
      · exact h p (by simp [h1])
      · rw [List.mem_singleton.1 h1]; exact ⟨hl.1, hl.2.1, by dsimp only; omega, by dsimp only; omega⟩
    · rw [addL_out hc]
      intro p hp
      rcases List.mem_append.1 hp with h1 | h1
      · exact h p h1
      · rw [List.mem_singleton.1 h1]; exact hw'
theorem bdW_fold : ∀ (zs o : List (Int × Int)), bdW o → bdW zs → bdW (zs.foldl addL o)
  | [], o, h, _ => h
  | w :: r, o, h, hw => bdW_fold r (addL o w) (bdW_addL h fun p hp => hw p (by rw [List.mem_singleton.1 hp]; simp)) fun p hp => hw p (by simp [hp])
theorem bdW_join {zs : List (Int × Int)} (h : bdW zs) : bdW (joinL zs) := bdW_fold zs [] (fun p hp => by cases hp) h
theorem bdW_take {zs : List (Int × Int)} (h : bdW zs) (k : Nat) : bdW (zs.take k) := fun p hp => h p (List.mem_of_mem_take hp)
theorem bdW_perm {ys zs : List (Int × Int)} (hp : ys.Perm zs) (h : bdW zs) : bdW ys := fun p hp' => h p (hp.mem_iff.1 hp')
theorem bdW_long {zs : List (Int × Int)} (h : bdW zs) : bdW (longL' zs) := bdW_join (bdW_perm (sortL_perm zs) h)

set_option maxRecDepth 100000 in
set_option maxHeartbeats 8000000 in
theorem longest_c (u : Value) (zs : List (Int × Int)) (hz : zs.length ≤ 1000000) (ho : okW zs) (hbd : bdW zs) (w : World) (hu : Rd cel2 w u zs) :
    Calls Try.prog 29 #[u] w (RetRow 35 2 (fun v => v) (longL' zs).length (cel2.row (longL' zs)) w) := by
  generalize hR : RetRow _ _ _ _ _ w = R
  have HR := Lib.hid hR
  clear hR
  obtain ⟨a, n, c, rfl, hs⟩ := hu.sl
  have HS := Lib.hid (fun x (hx : Bel w x) => hs.bel hx)
  clear hs
  go_enter Try.func29, Try.ntmps29
  go_wp2_with (first | (go_at_call 36; refine (Values_c _ _ _ _).mono ?_; rintro ee ww ⟨rfl, rfl⟩) | (go_at_call 35; refine (SortedStableFunc_c w.heap.size a n c zs hz _ (HS.out _ ((Bel.refl w).alloc _)) (by simp) (by simp)).mono ?_; rintro ee ww ⟨ys, hperm, hasc, v, g, rfl, rfl, hown⟩; obtain ⟨a1, c1, rfl, hnc, hcm⟩ := own_len hown; have HO := Lib.hid hown; clear hown; have HP := Lib.hid (And.intro hperm hasc); clear hperm hasc))
  have hN : ys.length ≤ 1000000 := by rw [HP.out.1.length_eq]; exact hz
  have hbk := bdW_perm HP.out.1 hbd
  have HB := Lib.hid hbk
  clear hbk
  generalize hA : ext (w.alloc (.cells #[.slice a n c] 24)) g = A at HO
  have hwA : Bel w A := by rw [← hA]; (repeat (first | with_reducible exact Bel.refl _ | with_reducible assumption | apply Bel.ext | apply Bel.alloc | apply Bel.drew | exact Bel.refl _ | refine Bel.set ?_ (by first | (simp; done) | (simp [go_sem]; done) | omega) _))
  have HO1 := Lib.hid (show A.ownsRow w.heap.size 35 2 (.slice a1 ys.length c1) ys.length (cel2.row ys) from own_mono HO.out (by simp))
  clear HO hA
  have hM0 : Mem w A [⟨.slice a1 ys.length c1, 35, 2, ys.length, cel2.row ys⟩] := mem_snoc (L := []) (mem_bel (mem_nil w) hwA) _ HO1.out (fun j s h => by simp at h)
  unfold maxLen at hcm
  go_loopw [3, 13] (fun o i wr => ∃ k : Nat, k ≤ ys.length ∧ i = .int .i64 k ∧ Hid (Mem w wr [⟨.slice a1 ys.length c1, 35, 2, ys.length, cel2.row ys⟩, ⟨o, 35, 2, (joinL (ys.take k)).length, cel2.row (joinL (ys.take k))⟩])) (fun _ i _ => ys.length - (intOf i).toNat)
  case atStart =>
    refine ⟨0, Nat.zero_le _, rfl, Lib.hid ?_⟩
    exact mem_lit hM0 35 2 [] 0 rfl (by unfold maxLen; omega)
  case round =>
    clear hM0
    obtain ⟨k, hk, rfl, hm⟩ := hrel
    have hM := hm.out
    clear hm
    by_cases hlt : k < ys.length
    · obtain ⟨b1, cc, hv, hb1, hb1s, -, -⟩ := row_base (hM.own 0 _ rfl) (show 0 < ys.length by omega)
      cases hv
      obtain ⟨⟨x, y⟩, hx⟩ : ∃ p, ys[k]? = some p := ⟨ys[k], by simp⟩
      obtain ⟨d0, d1, df⟩ := row_at2 (hM.own 0 _ rfl) hx
      have hxb := HB.out (x, y) (List.mem_of_getElem? hx)
      dsimp only at hxb
      obtain ⟨x1, x2, x3, x4⟩ := hxb
      have HX := Lib.hid (joinL_succ hx)
      have HBJ := Lib.hid (bdW_join (bdW_take HB.out k))
      have hjl : (joinL (ys.take k)).length ≤ 1000000 := by have := joinL_len (ys.take k); rw [List.length_take] at this; omega
      generalize joinL (ys.take k) = o' at HX HBJ hM hjl
      have ho1 := hM.own 1 _ rfl
      dsimp only at ho1
      obtain ⟨ao, co, rfl, hoc, hoc2⟩ := own_len ho1
      clear ho1
      unfold maxLen at hoc2
      have hYb : Bel wr (wr.alloc (.cells #[.int .i64 x, .int .i64 y] 35)) := by (repeat (first | with_reducible exact Bel.refl _ | with_reducible assumption | apply Bel.ext | apply Bel.alloc | apply Bel.drew | exact Bel.refl _ | refine Bel.set ?_ (by first | (simp; done) | (simp [go_sem]; done) | omega) _))
      have hMY := mem_bel hM hYb
      have y0 : (wr.alloc (.cells #[.int .i64 x, .int .i64 y] 35)).cell? ⟨wr.heap.size, 0, none⟩ = some (.int .i64 x) := by simp [go_sem]
      have y1 : (wr.alloc (.cells #[.int .i64 x, .int .i64 y] 35)).cell? ⟨wr.heap.size, 1, none⟩ = some (.int .i64 y) := by simp [go_sem]
      generalize hml : o'.length = m at hM hMY hoc hjl ⊢
      rcases snoc_cases o' with h0 | ⟨i, l, h0⟩
      · subst h0
        obtain rfl : m = 0 := by rw [← hml]; rfl
        go_wp2_with fail
        clear d0 d1 df hM
        generalize wr.alloc (.cells #[.int .i64 x, .int .i64 y] 35) = Y at *
        go_region
        have hM := mem_bel hMY ((Bel.refl Y).drew)
        have z0 : Y.drew.cell? ⟨wr.heap.size, 0, none⟩ = some (.int .i64 x) := y0
        have z1 : Y.drew.cell? ⟨wr.heap.size, 1, none⟩ = some (.int .i64 y) := y1
        clear hMY y0 y1
        generalize Y.drew = Y2 at *
        go_wp2_with (first | (at_builtin; refine wpList_append_mem rfl (.tmp 45) (.tmp 47) 24 35 2 16 rfl appWindow (by decide) w _ 1 _ _ _ rfl 1 [.int .i64 x, .int .i64 y] rfl (by first | with_reducible rfl | (simp [go_sem]; done)) rfl (by intro u hu; simp at hu; first | (subst hu; rfl) | (rcases hu with rfl | rfl <;> rfl) | (rcases hu with rfl | rfl | rfl <;> rfl)) (mem_bel hM ?_) (by omega) (by omega) ?_; (focus (repeat (first | with_reducible exact Bel.refl _ | with_reducible assumption | apply Bel.ext | apply Bel.alloc | apply Bel.drew | exact Bel.refl _))); intro v2 g2 hM; (try simp only [List.set_cons_zero, List.set_cons_succ] at hM)))
        go_roundw
        case rel =>
          refine ⟨k + 1, by omega, by go_num, Lib.hid ?_⟩
          rw [HX.out, addL_nil, Cel.row_one]
          exact hM
        case measure => simp [intOf]; omega
      · subst h0
        obtain ⟨lx, ly⟩ := l
        obtain rfl : m = i.length + 1 := by rw [← hml]; simp
        clear hml
        obtain ⟨bo, cc2, hv, hbo, hbos, -, -⟩ := row_base (hMY.own 1 _ rfl) (show 0 < i.length + 1 by omega)
        cases hv
        have hlb := HBJ.out (lx, ly) (by simp)
        dsimp only at hlb
        obtain ⟨l1, l2, l3, l4⟩ := hlb
        have hown := hMY.own 1 _ rfl
        dsimp only at hown
        obtain ⟨o0, o1, of⟩ := row_at2 (k := i.length) (x := lx) (y := ly) (by simpa using hown) (by simp)
        have of1 := of (i.length * 2 + 1)
        clear of hown
        generalize hq : i.length = q at *
        have HMY := Lib.hid hMY
        have HQ := Lib.hid hq
        clear hq hMY
        by_cases hxl : x ≤ ly + 1
        · go_wp2_with fail
          clear d0 d1 df hM
          generalize wr.alloc (.cells #[.int .i64 x, .int .i64 y] 35) = Y at *
          have t1 : IntKind.i64.wrap (ly + 1) = ly + 1 := IntWalk.i64_in _ (by omega)
          have t2 : (0 : Int) ≤ (q : Int) := by omega
          have t3 : (q : Int) < (q : Int) + 1 := by omega
          go_region
          go_wp2_with fail
          have hMD := mem_bel HMY.out ((Bel.refl Y).drew)
          have z1 : Y.drew.cell? ⟨wr.heap.size, 1, none⟩ = some (.int .i64 y) := y1
          have o1' : Y.drew.cell? ⟨bo, q * 2 + 1, none⟩ = some (.int .i64 ly) := o1
          have of' : Y.drew.frozen? ⟨bo, q * 2 + 1, none⟩ = false := of1
          have HMD := Lib.hid hMD
          clear HMY y0 y1 o0 o1 of1 hMD
          generalize Y.drew = Y2 at *
          go_region
          have hrs := row_set_to i (lx, ly) (max ly y)
          rw [HQ.out] at hrs
          have hM2 := mem_bel (mem_store HMD.out 1 rfl (q * 2 + 1) (.int .i64 (max ly y))) ((Bel.refl _).drew)
          simp only [List.set_cons_zero, List.set_cons_succ] at hM2
          rw [hrs] at hM2
          have HM2 := Lib.hid hM2
          clear hrs hM2 HMD z1 o1' of'
          generalize (Y2.setCell ⟨bo, q * 2 + 1, none⟩ (.int .i64 (max ly y))).drew = Y3 at *
          go_wp2
          go_roundw
          case rel =>
            refine ⟨k + 1, by omega, by go_num, Lib.hid ?_⟩
            rw [HX.out, addL_in (by exact hxl), List.length_append, HQ.out]
            exact HM2.out
          case measure => simp [intOf]; omega
        · go_wp2_with fail
          clear d0 d1 df hM
          generalize wr.alloc (.cells #[.int .i64 x, .int .i64 y] 35) = Y at *
          have t1 : IntKind.i64.wrap (ly + 1) = ly + 1 := IntWalk.i64_in _ (by omega)
          have t2 : (0 : Int) ≤ (q : Int) := by omega
          have t3 : (q : Int) < (q : Int) + 1 := by omega
          go_region
          have hM := mem_bel HMY.out ((Bel.refl Y).drew)
          have z0 : Y.drew.cell? ⟨wr.heap.size, 0, none⟩ = some (.int .i64 x) := y0
          have z1 : Y.drew.cell? ⟨wr.heap.size, 1, none⟩ = some (.int .i64 y) := y1
          clear HMY y0 y1 o0 o1 of1
          generalize Y.drew = Y2 at *
          go_wp2_with (first | (at_builtin; refine wpList_append_mem rfl (.tmp 45) (.tmp 47) 24 35 2 16 rfl appWindow (by decide) w _ 1 _ _ _ rfl 1 [.int .i64 x, .int .i64 y] rfl (by first | with_reducible rfl | (simp [go_sem]; done)) rfl (by intro u hu; simp at hu; first | (subst hu; rfl) | (rcases hu with rfl | rfl <;> rfl) | (rcases hu with rfl | rfl | rfl <;> rfl)) (mem_bel hM ?_) (by omega) (by omega) ?_; (focus (repeat (first | with_reducible exact Bel.refl _ | with_reducible assumption | apply Bel.ext | apply Bel.alloc | apply Bel.drew | exact Bel.refl _))); intro v2 g2 hM; (try simp only [List.set_cons_zero, List.set_cons_succ] at hM)))
          go_roundw
          case rel =>
            refine ⟨k + 1, by omega, by go_num, Lib.hid ?_⟩
            rw [HX.out, addL_out (by dsimp only; omega), Cel.row_append, Cel.row_one, List.length_append, List.length_append, HQ.out]
            exact hM
          case measure => simp [intOf]; omega
    · have hk' : k = ys.length := by omega
      have hO := hM.own 1 _ rfl
      rw [hk', List.take_of_length_le (Nat.le_refl _), longL_of HP.out.1 HP.out.2 ho] at hO
      have HO2 := Lib.hid hO
      have hbb := hM.bel
      clear hO hM
      go_wp2
      rw [← HR.out]
      exact RetRow.mk' rfl (by (repeat (first | with_reducible exact Bel.refl _ | with_reducible assumption | apply Bel.ext | apply Bel.alloc | apply Bel.drew | exact Bel.refl _ | refine Bel.set ?_ (by first | (simp; done) | (simp [go_sem]; done) | omega) _)) : Bel _ _) HO2.out
end Go.Proofs.Ytdneffnnpjgnbab
