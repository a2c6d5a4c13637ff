/- The cycles of the eclipses that lie in one window: what the reference returns. -/
import Derived.Test.YtpfemaonipcbgaaWhole
namespace Go.Proofs.Ytpfemaonipcbgaa
open Go.RowKit

theorem cyL_bd {b e p x y : Int} (hp : 0 < p) (h1 : 0 ≤ b) (h2 : b ≤ 1000000) (h3 : 0 ≤ e) (h4 : e ≤ 10000000) (h5 : 0 ≤ x) (h6 : x ≤ 10000000) (h7 : 0 ≤ y) (h8 : y ≤ 10000000) : (cyL b e p (x, y)).length ≤ 60000001 := by
  unfold cyL
  rw [upTo_len]
  unfold cyLo cyHi
  have b1 := ceilI_bd (a := x + b - e) hp (-30000000) 30000000 (by omega) (by omega) (by omega) (by omega)
  have b2 := floor_bd (a := y - b - e) hp (-30000000) 30000000 (by omega) (by omega) (by omega) (by omega)
  dsimp only
  omega
/-- a store into row i of the call's own -/
theorem mem_put1 {W w : World} {L : List Ent} (h : Mem W w L) (i : Nat) {b n c : Nat} {e : TypeId} {size : Nat} {cs : List Value} (hi : L[i]? = some ⟨.slice (some ⟨b, 0, none⟩) n c, e, size, n, cs⟩) (j : Nat) (u : Value) :
    Mem W (w.setCell ⟨b, j, none⟩ u) (L.set i ⟨.slice (some ⟨b, 0, none⟩) n c, e, size, n, cs.set j u⟩) := by
  have ho := h.own i _ hi
  have hb := (ho.lt b rfl).1
  exact mem_put h i hi _ (own_stored ho j u) (set_grown _ _ _ _) (Bel.set h.bel hb u) (.inl rfl)
theorem mem_seen {W g : World} {L : List Ent} (h : Mem W (ext W g) L) (i : Nat) {b n c n' : Nat} {e : TypeId} {size : Nat} {cs : List Value} (hi : L[i]? = some ⟨.slice (some ⟨b, 0, none⟩) n c, e, size, n', cs⟩) (h0 : 0 < n') :
    (∀ j u, cs[j]? = some u → farCell W g b j = some u) ∧ (∀ j, farMark W g b j = false) ∧ W.heap.size ≤ b ∧ b < (ext W g).heap.size ∧ ¬ b < W.heap.size := by
  obtain ⟨b', c', hv, h1, h2, _, _, h3, h4⟩ := own_far (h.own i _ hi) h0
  simp only [Value.slice.injEq, Option.some.injEq, Addr.mk.injEq] at hv
  obtain ⟨⟨rfl, _⟩, _⟩ := hv
  exact ⟨h3, h4, h1, h2, by omega⟩
theorem box2_a {A g gq : World} {u v : Value} {e : TypeId} {L : List Ent} (hu : u.oneCell' = true) (hv : v.oneCell' = true) (hM : Mem A (ext A g) L) :
    Mem A ((ext (ext A g).drew gq).alloc (.cells #[u, v] e)) (L ++ [⟨.slice (some ⟨(ext (ext A g).drew gq).heap.size, 0, none⟩) 1 1, e, 2, 1, [u, v]⟩]) :=
  mem_lit (mem_bel hM (((Bel.refl _).drew).ext gq)) e 2 [u, v] 1 rfl (by unfold maxLen; omega)
theorem box2_b {A g gq : World} {u v z1 z2 : Value} {e : TypeId} {L : List Ent} (hM : Mem A (ext A g) L) :
    Mem A (((ext ((ext A g).alloc (.cells #[z1, z2] e)).drew gq).setCell ⟨(ext A g).heap.size, 0, none⟩ u).setCell ⟨(ext A g).heap.size, 1, none⟩ v) (L ++ [⟨.slice (some ⟨(ext A g).heap.size, 0, none⟩) 1 1, e, 2, 1, [u, v]⟩]) := by
  have h1 : Mem A ((ext A g).alloc (.cells #[z1, z2] e)) (L ++ [⟨.slice (some ⟨(ext A g).heap.size, 0, none⟩) 1 1, e, 2, 1, [z1, z2]⟩]) := mem_lit hM e 2 [z1, z2] 1 rfl (by unfold maxLen; omega)
  have h2 := mem_bel h1 (((Bel.refl _).drew).ext gq)
  have hi : ∀ cs : List Value, (L ++ [(⟨.slice (some ⟨(ext A g).heap.size, 0, none⟩) 1 1, e, 2, 1, cs⟩ : Ent)])[L.length]? = some ⟨.slice (some ⟨(ext A g).heap.size, 0, none⟩) 1 1, e, 2, 1, cs⟩ := fun cs => by rw [List.getElem?_append_right (Nat.le_refl _), Nat.sub_self]; rfl
  have hs : ∀ (r r' : Ent), (L ++ [r]).set L.length r' = L ++ [r'] := fun r r' => by rw [List.set_append_right _ _ (Nat.le_refl _), Nat.sub_self]; rfl
  have h3 := mem_put1 h2 L.length (hi _) 0 u
  rw [hs] at h3
  have h4 := mem_put1 h3 L.length (hi _) 1 v
  rw [hs] at h4
  exact h4
theorem box2_cells {A X : World} {L : List Ent} {q : Nat} {e : TypeId} {u v : Value} (hM : Mem A X (L ++ [⟨.slice (some ⟨q, 0, none⟩) 1 1, e, 2, 1, [u, v]⟩])) :
    X.cell? ⟨q, 0, none⟩ = some u ∧ X.cell? ⟨q, 1, none⟩ = some v ∧ q < X.heap.size ∧ A.heap.size ≤ q := by
  have ho := hM.own L.length _ (by rw [List.getElem?_append_right (Nat.le_refl _), Nat.sub_self]; rfl)
  have hc := ho.cells (g := q) rfl
  have h0 := hc 0 u rfl
  have h1 := hc 1 v rfl
  rw [addr_add] at h0 h1
  exact ⟨by simpa using h0, by simpa using h1, (ho.lt q rfl).2, (ho.lt q rfl).1⟩
theorem mem_init {W w : World} {A B : List Ent} (h : Mem W w (A ++ B)) : Mem W w A := by
  have get : ∀ (i : Nat) (r : Ent), A[i]? = some r → (A ++ B)[i]? = some r := fun i r hi => by rw [List.getElem?_append_left (List.getElem?_eq_some_iff.1 hi).1]; exact hi
  exact ⟨h.bel, fun i r hi => h.own i r (get i r hi), fun i j r s hi hj hij => h.apart i j r s (get i r hi) (get j s hj) hij⟩
set_option maxHeartbeats 8000000 in
theorem sWholeEclipses_c (a b c e p : Int) (u : Value) (xs : List (Int × Int)) (w : World) (hu : Rd cel2 w u xs) :
    Calls Try.prog 9 #[.agg #[.int .i64 a, .int .i64 b, .int .i64 c], .agg #[.int .i64 e, .int .i64 p], u] w (RetRow 2 1 (fun v => .tuple #[v, .int .i64 (wholeI a b c e p xs).2]) (wholeI a b c e p xs).1.length (celI.row (wholeI a b c e p xs).1) w) := by
  generalize hR : RetRow _ _ _ _ _ w = R
  have HR := Lib.hid hR
  clear hR
  have hu' := hu
  obtain ⟨aa, n, cc, rfl, hs⟩ := hu'.sl
  have hcap := hs.le; have hmax := hs.cap
  unfold maxLen at hmax
  have HL := Lib.hid hs.len
  have VM := Lib.hid (fun w => l14Ok_c a b c w)
  have VF := Lib.hid (fun w hu => l16Code_c e p (.slice aa n cc) xs w hu)
  unfold wholeI at HR
  unfold fitsI at VF
  rcases h1 : modelB a b c with _ | _ <;> rcases h2 : (ephB e p && windowsB xs) with _ | _ <;> simp only [h1, h2, Bool.not_true, Bool.not_false, if_true, if_false, Bool.false_eq_true] at HR VM VF
  case true.true =>
    simp only [Bool.and_eq_true] at h2
    obtain ⟨h2, h3⟩ := h2
    obtain ⟨m1, m2, m3, m4, m5⟩ := modelB_iff.1 h1
    have HE := Lib.hid h2
    obtain ⟨e1, e2, p1, p2⟩ := ephB_iff.1 h2
    have hget : ∀ (k : Nat) (x : Int × Int), xs[k]? = some x → 0 ≤ x.1 ∧ x.1 ≤ 10000000 ∧ 0 ≤ x.2 ∧ x.2 ≤ 10000000 ∧ x.1 ≤ x.2 := fun k x hx => windowsB_get h3 hx
    have HG := Lib.hid hget
    have hlen := windowsB_len h3
    rw [← HL.out] at hlen
    clear h1 h2 h3 hget
    go_enter Try.func9, Try.ntmps9
    go_wp2_with (first | (go_at_call 28; refine Calls.mono (VM.out _) ?_; rintro ee ww ⟨rfl, _, rfl⟩) | (go_at_call 29; refine Calls.mono (VF.out _ (hu.bel ?_)) ?_; (focus (repeat (first | with_reducible exact Bel.refl _ | with_reducible assumption | apply Bel.ext | apply Bel.alloc | apply Bel.drew | exact Bel.refl _))); rintro ee ww ⟨rfl, _, rfl⟩))
    have hwA : Bel w ((w.alloc (Obj.cells #[.int .i64 a, .int .i64 b, .int .i64 c] 31)).alloc (Obj.cells #[.int .i64 e, .int .i64 p] 33)) := by (repeat (first | with_reducible exact Bel.refl _ | with_reducible assumption | apply Bel.ext | apply Bel.alloc | apply Bel.drew | exact Bel.refl _ | refine Bel.set ?_ (by first | (simp; done) | (simp [go_sem]; done) | omega) _))
    have hc0 : ((w.alloc (Obj.cells #[.int .i64 a, .int .i64 b, .int .i64 c] 31)).alloc (Obj.cells #[.int .i64 e, .int .i64 p] 33)).cell? ⟨w.heap.size, 0, none⟩ = some (.int .i64 a) := by simp [go_sem]
    have hc1 : ((w.alloc (Obj.cells #[.int .i64 a, .int .i64 b, .int .i64 c] 31)).alloc (Obj.cells #[.int .i64 e, .int .i64 p] 33)).cell? ⟨w.heap.size, 1, none⟩ = some (.int .i64 b) := by simp [go_sem]
    have hc2 : ((w.alloc (Obj.cells #[.int .i64 a, .int .i64 b, .int .i64 c] 31)).alloc (Obj.cells #[.int .i64 e, .int .i64 p] 33)).cell? ⟨w.heap.size, 2, none⟩ = some (.int .i64 c) := by simp [go_sem]
    have hc3 : ((w.alloc (Obj.cells #[.int .i64 a, .int .i64 b, .int .i64 c] 31)).alloc (Obj.cells #[.int .i64 e, .int .i64 p] 33)).cell? ⟨w.heap.size + 1, 0, none⟩ = some (.int .i64 e) := by simp [go_sem]
    have hc4 : ((w.alloc (Obj.cells #[.int .i64 a, .int .i64 b, .int .i64 c] 31)).alloc (Obj.cells #[.int .i64 e, .int .i64 p] 33)).cell? ⟨w.heap.size + 1, 1, none⟩ = some (.int .i64 p) := by simp [go_sem]
    have hz0 : w.heap.size < ((w.alloc (Obj.cells #[.int .i64 a, .int .i64 b, .int .i64 c] 31)).alloc (Obj.cells #[.int .i64 e, .int .i64 p] 33)).heap.size := by first | (simp; done) | (simp; omega)
    have hz1 : w.heap.size + 1 < ((w.alloc (Obj.cells #[.int .i64 a, .int .i64 b, .int .i64 c] 31)).alloc (Obj.cells #[.int .i64 e, .int .i64 p] 33)).heap.size := by first | (simp; done) | (simp; omega)
    generalize ((w.alloc (Obj.cells #[.int .i64 a, .int .i64 b, .int .i64 c] 31)).alloc (Obj.cells #[.int .i64 e, .int .i64 p] 33)) = A at *
    have hM := mem_nil A
    have hsA := hs.bel hwA
    go_loopw [9, 10] (fun s i wr => ∃ (k N : Nat), k ≤ n ∧ i = .int .i64 k ∧ s = .int .i64 N ∧ N ≤ k * 60000001 ∧ Hid (N = (cyAll b e p (xs.take k)).length) ∧ ∃ g, wr = ext A g) (fun _ i _ => n - (intOf i).toNat)
    case atStart => exact ⟨0, 0, by omega, by go_num, rfl, by omega, Lib.hid (by simp [cyAll]), ext_ex (by (repeat (first | with_reducible exact Bel.refl _ | with_reducible assumption | apply Bel.ext | apply Bel.alloc | apply Bel.drew | exact Bel.refl _ | refine Bel.set ?_ (by first | (simp; done) | (simp [go_sem]; done) | omega) _)) : Bel A _)⟩
    case round =>
      obtain ⟨k, N, hk, rfl, rfl, hNb, hN, g, rfl⟩ := hrel
      by_cases hlt : k < n
      · obtain ⟨bb, off, rfl, hb⟩ := hsA.base hlt
        obtain ⟨x, y, hx, hd0, hd1⟩ := hsA.at2 hlt
        obtain ⟨x1, x2, y1, y2, xy⟩ := HG.out k _ hx.out
        dsimp only at x1 x2 y1 y2 xy
        have HT := Lib.hid (cyAll_take (h := b) (e := e) (p := p) hx.out)
        have hCL := cyL_bd (b := b) (e := e) (p := p) (x := x) (y := y) (by omega) (by omega) (by omega) (by omega) (by omega) (by omega) (by omega) (by omega) (by omega)
        have hIC := inCnt_eq (h := b) (e := e) (p := p) (w := (x, y)) (by omega)
        unfold inCnt at hIC
        dsimp only at hIC
        have HI := Lib.hid (fun w => l16Inner_c a b c x y (by omega) (by omega) x1 x2 y1 y2 w)
        obtain ⟨M, hM0⟩ : ∃ M, (cyL b e p (x, y)).length = M := ⟨_, rfl⟩
        rw [hM0] at hIC hCL
        have HM := Lib.hid hM0
        clear hM0
        by_cases hok : x + b ≤ y - b
        · rw [if_pos hok] at hIC
          have HC := Lib.hid (fun w => l16Count_c e p (x + b) (y - b) HE.out (by omega) (by omega) (by omega) (by omega) w)
          rw [hIC] at HC
          rw [decide_eq_true hok] at HI
          clear hok hIC
          go_wp2_with fail
          go_region_held3 (fun q => q.cell? ⟨w.heap.size, 0, none⟩ = some (.int .i64 a) ∧ q.cell? ⟨w.heap.size, 1, none⟩ = some (.int .i64 b) ∧ q.cell? ⟨w.heap.size, 2, none⟩ = some (.int .i64 c) ∧ q.cell? ⟨bb, off + k * 2, none⟩ = some (.int .i64 x) ∧ q.cell? ⟨bb, off + k * 2 + 1, none⟩ = some (.int .i64 y)) (simp [go_sem, *]) (first | (go_at_call 30; refine Calls.mono (HI.out _) ?_; rintro ee ww ⟨rfl, gq, rfl⟩))
          all_goals
            go_wp2_with (first | (go_at_call 31; refine Calls.mono (HC.out _) ?_; rintro ee ww ⟨rfl, _, rfl⟩))
            go_roundw
            case rel => exact ⟨k + 1, N + M, by omega, by go_num, by go_num, by omega, Lib.hid (by rw [HT.out, List.length_append, HM.out, hN.out]), ext_ex (by (repeat (first | with_reducible exact Bel.refl _ | with_reducible assumption | apply Bel.ext | apply Bel.alloc | apply Bel.drew | exact Bel.refl _ | refine Bel.set ?_ (by first | (simp; done) | (simp [go_sem]; done) | omega) _)) : Bel A _)⟩
            case measure => simp [intOf]; omega
        · rw [if_neg hok] at hIC
          rw [decide_eq_false hok] at HI
          have HM0 : Hid (M = 0) := Lib.hid (by omega)
          clear hok hIC
          go_wp2_with fail
          go_region_held3 (fun q => q.cell? ⟨w.heap.size, 0, none⟩ = some (.int .i64 a) ∧ q.cell? ⟨w.heap.size, 1, none⟩ = some (.int .i64 b) ∧ q.cell? ⟨w.heap.size, 2, none⟩ = some (.int .i64 c) ∧ q.cell? ⟨bb, off + k * 2, none⟩ = some (.int .i64 x) ∧ q.cell? ⟨bb, off + k * 2 + 1, none⟩ = some (.int .i64 y)) (simp [go_sem, *]) (first | (go_at_call 30; refine Calls.mono (HI.out _) ?_; rintro ee ww ⟨rfl, gq, rfl⟩))
          all_goals
            go_wp2
            go_roundw
            case rel => exact ⟨k + 1, N, by omega, by go_num, rfl, Nat.le_trans hNb (Nat.mul_le_mul_right _ (Nat.le_succ k)), Lib.hid (by rw [HT.out, List.length_append, HM.out, HM0.out, Nat.add_zero, hN.out]), ext_ex (by (repeat (first | with_reducible exact Bel.refl _ | with_reducible assumption | apply Bel.ext | apply Bel.alloc | apply Bel.drew | refine Bel.set ?_ (by first | omega | (simp; done) | (simp [go_sem]; done) | (dsimp only; omega)) _)) : Bel A _)⟩
            case measure => simp [intOf]; omega
      · have hkn : k = n := by omega
        have hN' := hN.out
        rw [hkn, List.take_of_length_le (by rw [HL.out]; exact Nat.le_refl _)] at hN'
        clear hkn
        have hbig := Nat.lt_or_ge 200 N
        rcases hbig with hbig | hbig
        · have h := HR.out
          rw [if_pos (by rw [← hN']; exact hbig)] at h
          have HR2 := Lib.hid h
          clear h HR hN'
          go_wp2
          rw [← HR2.out]
          refine RetRow.mk' rfl ?_ (World.ownsRow_nil _ _ _ _)
          exact Below.trans hwA (Below.mono (by (repeat (first | with_reducible exact Bel.refl _ | with_reducible assumption | apply Bel.ext | apply Bel.alloc | apply Bel.drew | exact Bel.refl _ | refine Bel.set ?_ (by first | (simp; done) | (simp [go_sem]; done) | omega) _)) : Bel A _) hwA.size)
        · have h := HR.out
          rw [if_neg (by rw [← hN']; omega)] at h
          have HR2 := Lib.hid h
          have HN2 := Lib.hid hN'
          clear h HR hN' hN
          go_wp2
          go_loopw [13, 14] (fun o i wr => ∃ k : Nat, k ≤ n ∧ i = .int .i64 k ∧ Mem A wr [⟨o, 2, 1, (cyAll b e p (xs.take k)).length, celI.row (cyAll b e p (xs.take k))⟩]) (fun _ i _ => n - (intOf i).toNat)
          case atStart =>
            refine ⟨0, by omega, by go_num, ?_⟩
            have h0 := mem_lit (mem_bel hM ((Bel.refl A).ext g)) 2 1 [] 0 rfl (by unfold maxLen; omega)
            exact h0
          case round =>
            clear hM
            obtain ⟨k, hk, rfl, hM⟩ := hrel
            obtain ⟨g, rfl⟩ := ext_ex hM.bel
            by_cases hlt : k < n
            · obtain ⟨bb, off, rfl, hb⟩ := hsA.base hlt
              obtain ⟨x, y, hx, hd0, hd1⟩ := hsA.at2 hlt
              obtain ⟨x1, x2, y1, y2, xy⟩ := HG.out k _ hx.out
              dsimp only at x1 x2 y1 y2 xy
              have HT := Lib.hid (cyAll_take (h := b) (e := e) (p := p) hx.out)
              have HTL := Lib.hid (cyAll_take_le b e p xs (k + 1))
              have HI := Lib.hid (fun w => l16Inner_c a b c x y (by omega) (by omega) x1 x2 y1 y2 w)
              have b1 := ceilI_bd (a := x + b - e) (b := p) (by omega) (-30000000) 30000000 (by omega) (by omega) (by omega) (by omega)
              have b2 := floor_bd (a := y - b - e) (b := p) (by omega) (-30000000) 30000000 (by omega) (by omega) (by omega) (by omega)
              have hN1 : x + b ≤ nextI e p (x + b) ∧ nextI e p (x + b) ≤ x + b + p := by
                have r0 := Int.emod_nonneg (x + b - e) (show p ≠ 0 by omega)
                have r1 := Int.emod_lt_of_pos (x + b - e) (show 0 < p by omega)
                unfold nextI; split <;> omega
              have HN := Lib.hid (fun w => l09Next_c e p (x + b) HE.out (by omega) (by omega) w)
              have HNE := Lib.hid (nextI_eq (e := e) (p := p) (t := x + b) (by omega))
              have HLE := Lib.hid (fun z => le_floor (a := y - b - e) (b := p) z (by omega))
              change Hid (cyAll b e p (xs.take (k + 1)) = cyAll b e p (xs.take k) ++ upTo (ceilI (x + b - e) p) ((y - b - e) / p)) at HT
              generalize ceilI (x + b - e) p = lo at *
              generalize (y - b - e) / p = hi at *
              generalize nextI e p (x + b) = nx at *
              obtain ⟨l1, l2⟩ := b1
              obtain ⟨l3, l4⟩ := b2
              obtain ⟨l5, l6⟩ := hN1
              obtain ⟨L, hL⟩ : ∃ L, cyAll b e p (xs.take k) = L := ⟨_, rfl⟩
              rw [hL] at hM HT
              clear hL
              have hLl : L.length ≤ 200 := by
                have h1 := HTL.out
                rw [HT.out, List.length_append, ← HN2.out] at h1
                omega
              generalize decide (x + b ≤ y - b) = ok at *
              go_wp2_with fail
              go_region_held3 (fun q => q.cell? ⟨w.heap.size, 0, none⟩ = some (.int .i64 a) ∧ q.cell? ⟨w.heap.size, 1, none⟩ = some (.int .i64 b) ∧ q.cell? ⟨w.heap.size, 2, none⟩ = some (.int .i64 c) ∧ q.cell? ⟨bb, off + k * 2, none⟩ = some (.int .i64 x) ∧ q.cell? ⟨bb, off + k * 2 + 1, none⟩ = some (.int .i64 y)) (simp [go_sem, *]) (first | (go_at_call 30; refine Calls.mono (HI.out _) ?_; rintro ee ww ⟨rfl, gq, rfl⟩))
              have hM2 := box2_a (gq := gq) (u := .int .i64 (x + b)) (v := .int .i64 (y - b)) (e := 45) rfl rfl hM
              generalize ((ext (ext A g).drew gq).alloc (.cells #[.int .i64 (x + b), .int .i64 (y - b)] 45)) = X at *
              generalize (ext (ext A g).drew gq).heap.size = q at *
              have hM4 := hM2
              clear hM2
              rotate_left
              have hM2 := box2_b (gq := gq) (u := .int .i64 (x + b)) (v := .int .i64 (y - b)) (z1 := .int .i64 0) (z2 := .int .i64 0) (e := 45) hM
              generalize (((ext ((ext A g).alloc (.cells #[.int .i64 0, .int .i64 0] 45)).drew gq).setCell ⟨(ext A g).heap.size, 0, none⟩ (.int .i64 (x + b))).setCell ⟨(ext A g).heap.size, 1, none⟩ (.int .i64 (y - b))) = X at *
              generalize (ext A g).heap.size = q at *
              have hM4 := hM2
              clear hM2
              all_goals
                rename_i hHeld
                clear hHeld
                obtain ⟨gx, hgx⟩ := ext_ex hM4.bel
                subst hgx
                obtain ⟨o1, o2, o3, o4, o5⟩ := mem_seen hM4 1 rfl (by omega)
                have F0 := o1 0 _ rfl
                have F1 := o1 1 _ rfl
                clear o1 hM
                go_wp2_with (first | (go_at_call 32; refine Calls.mono (HN.out _) ?_; rintro ee ww ⟨rfl, _, rfl⟩))
                have HK := Lib.hid hLl
                clear o2 o3 o4 o5 F0 F1 hLl
                go_loopw [13, 17] (fun o tv wr => ∃ (j : Nat) (T : Int), (j = 0 ∨ lo + j ≤ hi + 1) ∧ tv = .int .i64 T ∧ 0 ≤ T ∧ T ≤ 30000000 ∧ Hid (T = e + (lo + j) * p) ∧ Mem A wr [⟨o, 2, 1, L.length + j, celI.row (L ++ (upTo lo hi).take j)⟩, ⟨.slice (some ⟨q, 0, none⟩) 1 1, 45, 2, 1, [.int .i64 (x + b), .int .i64 (y - b)]⟩]) (fun _ tv _ => (y - b + p - intOf tv).toNat)
                case atStart =>
                  refine ⟨0, nx, .inl rfl, by go_num, by omega, by omega, Lib.hid (by rw [HNE.out]; simp), ?_⟩
                  have h0 := fun gz => mem_bel hM4 ((Bel.refl (ext A gx)).ext gz)
                  simpa using h0 _
                case round =>
                  clear hM4
                  obtain ⟨j, T, hj, rfl, t1, t2, hT, hM⟩ := hrel
                  obtain ⟨g, hg⟩ := ext_ex hM.bel
                  subst hg
                  obtain ⟨o1, o2, o3, o4, o5⟩ := mem_seen hM 1 rfl (by omega)
                  have F0 := o1 0 _ rfl
                  have F1 := o1 1 _ rfl
                  clear o1
                  have hlj : T ≤ y - b ↔ lo + (j : Int) ≤ hi := by
                    rw [HLE.out, hT.out]; omega
                  have HLJ := Lib.hid hlj
                  clear hlj
                  have HCY := Lib.hid (fun w => l09Cycle_c e p T HE.out (by omega) (by omega) w)
                  rw [show (T - e) / p = lo + j from by rw [hT.out]; exact cycle_at (by omega)] at HCY
                  by_cases hl : T ≤ y - b
                  · have hl2 := HLJ.out.1 hl
                    have HKo := HK.out
                    go_wp2_with (first | (go_at_call 33; refine Calls.mono (HCY.out _) ?_; rintro ee ww ⟨rfl, _, rfl⟩) | (at_builtin; refine wpList_append_mem rfl (.tmp 78) (.tmp 82) 28 2 1 8 rfl appIntW (by decide) A _ 0 _ _ _ rfl 1 [.int .i64 (lo + j)] rfl (by first | with_reducible rfl | (simp [go_sem]; done)) rfl (by intro u hu; simp at hu; first | (subst hu; rfl) | (rcases hu with rfl | rfl <;> rfl) | (rcases hu with rfl | rfl | rfl <;> rfl)) (mem_bel hM ?_) (by omega) (by omega) ?_; (focus (repeat (first | with_reducible exact Bel.refl _ | with_reducible assumption | apply Bel.ext | apply Bel.alloc | apply Bel.drew | exact Bel.refl _))); intro v2 g2 hM3; (try simp only [List.set_cons_zero, List.set_cons_succ] at hM3)))
                    go_roundw
                    case rel =>
                      refine ⟨j + 1, T + p, .inr (by omega), by go_num, by omega, by omega, Lib.hid (by rw [hT.out]; simp only [Int.natCast_add, Int.add_mul]; omega), ?_⟩
                      rw [upTo_take hl2, ← List.append_assoc, Cel.row_append, Cel.row_one, ← Nat.add_assoc]; exact hM3
                    case measure => simp [intOf]; omega
                  · have hl2 : ¬ lo + (j : Int) ≤ hi := fun h => hl (HLJ.out.2 h)
                    have HF := Lib.hid (upTo_full (c := lo) (l := hi) (j := j) (by omega))
                    have HJ := Lib.hid (show (upTo lo hi).length = j by rw [upTo_len]; omega)
                    go_wp2
                    go_roundw
                    case rel =>
                      refine ⟨k + 1, by omega, by go_num, ?_⟩
                      rw [HT.out, List.length_append, HJ.out, ← HF.out]
                      exact mem_init (A := [_]) hM
                    case measure => simp [intOf]; omega
            · have hk' : k = n := by omega
              subst hk'
              rw [List.take_of_length_le (by rw [HL.out]; exact Nat.le_refl _)] at hM
              go_wp2
              rw [← HR2.out]
              refine RetRow.mk' rfl ?_ (own_mono (own_bel (hM.own 0 _ rfl) ?_) hwA.size)
              · exact Below.trans hwA (Below.mono (by (repeat (first | with_reducible exact Bel.refl _ | with_reducible assumption | apply Bel.ext | apply Bel.alloc | apply Bel.drew | exact Bel.refl _ | refine Bel.set ?_ (by first | (simp; done) | (simp [go_sem]; done) | omega) _)) : Bel A _) hwA.size)
              · (repeat (first | with_reducible exact Bel.refl _ | with_reducible assumption | apply Bel.ext | apply Bel.alloc | apply Bel.drew | exact Bel.refl _ | refine Bel.set ?_ (by first | (simp; done) | (simp [go_sem]; done) | omega) _))
  all_goals
    clear h1 h2
    go_enter Try.func9, Try.ntmps9
    go_wp2_with (first | (go_at_call 28; refine Calls.mono (VM.out _) ?_; rintro ee ww ⟨rfl, _, rfl⟩) | (go_at_call 29; refine Calls.mono (VF.out _ (hu.bel ?_)) ?_; (focus (repeat (first | with_reducible exact Bel.refl _ | with_reducible assumption | apply Bel.ext | apply Bel.alloc | apply Bel.drew | exact Bel.refl _))); rintro ee ww ⟨rfl, _, rfl⟩))
    rw [← HR.out]
    exact RetRow.mk' rfl (by (repeat (first | with_reducible exact Bel.refl _ | with_reducible assumption | apply Bel.ext | apply Bel.alloc | apply Bel.drew | exact Bel.refl _ | refine Bel.set ?_ (by first | (simp; done) | (simp [go_sem]; done) | omega) _)) : Bel _ _) (World.ownsRow_nil _ _ _ _)
end Go.Proofs.Ytpfemaonipcbgaa
