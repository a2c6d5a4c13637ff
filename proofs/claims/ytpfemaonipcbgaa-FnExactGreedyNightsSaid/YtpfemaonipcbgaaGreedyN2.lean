/- The greedy choice of windows: what the reference returns. -/
import Derived.Test.YtpfemaonipcbgaaGreedyN
namespace Go.Proofs.Ytpfemaonipcbgaa
open Go.RowKit

/-- how many cells of a slice of bools are true -/
noncomputable def seenN (v : Value) (N : Nat) (w : World) : Nat := open Classical in
  ((List.range N).filter (fun i => decide (∃ b off n c, v = .slice (some ⟨b, off, none⟩) n c ∧ w.cell? ⟨b, off + i, none⟩ = some (.bool true)))).length
open Classical in
theorem seenN_eq {w : World} {v : Value} {f : Nat → Bool} {N : Nat} (h : Rd celB w v (mapB f N)) : seenN v N w = (idxL f N).length := by
  unfold seenN idxL
  rw [List.length_map]
  congr 1
  refine List.filter_congr fun i hi => ?_
  have hi' := List.mem_range.1 hi
  obtain ⟨a, n, c, rfl, hs⟩ := h.sl
  have hl := hs.len
  rw [mapB_len] at hl
  subst hl
  obtain ⟨b, off, rfl, hb⟩ := hs.base hi'
  obtain ⟨x, hx, hc⟩ := hs.atB hi'
  rw [← mapB_get hx.out]
  cases x with
  | true => exact decide_eq_true ⟨b, off, _, _, rfl, hc⟩
  | false =>
    refine decide_eq_false ?_
    rintro ⟨b', off', n', c', e, h'⟩
    cases e
    rw [hc] at h'
    cases h'
/-- the round's search, as the reference counts: k sets seen, the best is bb, it shows x bins with what is had -/
def PickInv (fs : List (Nat → Bool)) (h : Nat → Bool) (N k bb mm : Nat) (x : Int) : Prop :=
  (x = if k = 0 then -1 else (((idxL h N).length + mm : Nat) : Int)) ∧ (k = 0 → bb = 0 ∧ mm = 0) ∧ pickG fs h N = bestG (fun f => gainN f h N) k bb mm (fs.drop k)
theorem pickInv_start (fs : List (Nat → Bool)) (h : Nat → Bool) (N : Nat) : PickInv fs h N 0 0 0 (-1) := ⟨rfl, fun _ => ⟨rfl, rfl⟩, rfl⟩
theorem pickInv_hit {fs : List (Nat → Bool)} {h f : Nat → Bool} {N k bb mm : Nat} {x : Int} (hp : PickInv fs h N k bb mm x) (hf : fs[k]? = some f) (hx : x < ((idxL (fun i => h i || f i) N).length : Int)) :
    PickInv fs h N (k + 1) k (gainN f h N) ((idxL (fun i => h i || f i) N).length : Int) := by
  obtain ⟨h1, h2, h3⟩ := hp
  refine ⟨by rw [if_neg (by omega), gain_or], fun h => by omega, ?_⟩
  rw [gain_or] at hx
  rcases Nat.eq_zero_or_pos k with rfl | hk
  · obtain ⟨rfl, rfl⟩ := h2 rfl
    rw [h3, drop_cons_of hf, bestG_start]
  · rw [if_neg (by omega)] at h1
    rw [h3]
    exact bestG_hit hf (by show mm < gainN f h N; omega)
theorem pickInv_skip {fs : List (Nat → Bool)} {h f : Nat → Bool} {N k bb mm : Nat} {x : Int} (hp : PickInv fs h N k bb mm x) (hf : fs[k]? = some f) (hx : ¬ x < ((idxL (fun i => h i || f i) N).length : Int)) :
    PickInv fs h N (k + 1) bb mm x := by
  obtain ⟨h1, h2, h3⟩ := hp
  rw [gain_or] at hx
  rcases Nat.eq_zero_or_pos k with rfl | hk
  · rw [if_pos rfl] at h1
    omega
  · rw [if_neg (by omega)] at h1
    refine ⟨by rw [if_neg (by omega)]; exact h1, fun h => by omega, ?_⟩
    rw [h3]
    exact bestG_skip hf (by show ¬ mm < gainN f h N; omega)
theorem pickInv_end {fs : List (Nat → Bool)} {h : Nat → Bool} {N k bb mm : Nat} {x : Int} (hp : PickInv fs h N k bb mm x) (hk : fs.length ≤ k) : pickG fs h N = (bb, mm) := by
  rw [hp.2.2, List.drop_of_length_le hk]; rfl
theorem idxL_true (f : Nat → Bool) (N : Nat) : idxL (fun i => f i == true) N = idxL f N := by simp only [beq_true]
set_option maxRecDepth 100000 in
set_option maxHeartbeats 8000000 in
theorem sGreedyNights_c (e p n : Int) (u : Value) (xs : List (Int × Int)) (w : World) (hu : Rd cel2 w u xs) :
    Calls Try.prog 26 #[.agg #[.int .i64 e, .int .i64 p], u, .int .i64 n] w (RetRow 2 1 (fun v => .tuple #[v, .int .i64 (greedyNI e p n xs).2]) (greedyNI e p n xs).1.length (celI.row (greedyNI e p n xs).1) w) := by
  generalize hR : RetRow _ _ _ _ _ w = R
  have HR := Lib.hid hR
  clear hR
  have HS := Lib.hid (fun w hu => l16Bins_c e p n u xs w hu)
  have hok := @codeB_ok e p n xs
  unfold greedyNI at HR
  by_cases hc : codeB e p n xs = 0
  rotate_left
  · clear hok
    rw [if_pos hc] at HR
    have hc' : (codeB e p n xs != 0) = true := by simp [hc]
    have hc2 : (codeB e p n xs == 0) = false := by simp [hc]
    generalize codeB e p n xs = c at *
    clear hc
    go_enter Try.func26, Try.ntmps26
    go_wp2_with (first | (go_at_call 40; refine Calls.mono (HS.out _ (hu.bel ?_)) ?_; (focus (repeat (first | with_reducible exact Bel.refl _ | with_reducible assumption | apply Bel.ext | apply Bel.alloc | apply Bel.drew | exact Bel.refl _))); rintro ee ww ⟨rfl, _, rfl⟩))
    rw [← HR.out]
    exact RetRow.mk' rfl (by (repeat (first | with_reducible exact Bel.refl _ | with_reducible assumption | apply Bel.ext | apply Bel.alloc | apply Bel.drew | exact Bel.refl _ | refine Bel.set ?_ (by first | (simp; done) | (simp [go_sem]; done) | omega) _)) : Bel _ _) (World.ownsRow_nil _ _ _ _)
  obtain ⟨h1, h2, n1, n2, n3⟩ := hok hc
  rw [if_neg (by simp [hc])] at HR
  rw [hc] at HS
  clear hok hc
  obtain ⟨N, rfl⟩ : ∃ N : Nat, n = (N : Int) := ⟨n.toNat, by omega⟩
  simp only [Int.toNat_natCast] at HR
  have hM30 := windowsB_len h2
  have HA := Lib.hid (fun w hu => l16All_c e p N h1 (by omega) (by omega) n3 u xs h2 w hu)
  have hN : N ≤ 1000 := by omega
  by_cases hS : maskOf (allF e p N xs) N = 2 ^ N - 1
  rotate_left
  · rw [if_pos hS] at HR
    have HB := Lib.hid (fun u w hu => l16List_c (allF e p N xs) N hN false u w hu)
    have h9 := idxL_none (allF e p N xs) N
    rw [show (maskOf (allF e p N xs) N == 2 ^ N - 1) = false from by simp [hS]] at h9
    generalize allF e p N xs = F at *
    generalize idxL (fun i => F i == false) N = ys at *
    clear hS
    have hy : (0 : Int) < (ys.length : Int) := by simp at h9; cases ys with | nil => exact absurd rfl h9 | cons a r => simp only [List.length_cons]; omega
    clear h9
    go_enter Try.func26, Try.ntmps26
    go_wp2_with (first | (go_at_call 40; refine Calls.mono (HS.out _ (hu.bel ?_)) ?_; (focus (repeat (first | with_reducible exact Bel.refl _ | with_reducible assumption | apply Bel.ext | apply Bel.alloc | apply Bel.drew | exact Bel.refl _))); rintro ee ww ⟨rfl, _, rfl⟩) | (go_at_call 45; refine Calls.mono (HA.out _ (hu.bel ?_)) ?_; (focus (repeat (first | with_reducible exact Bel.refl _ | with_reducible assumption | apply Bel.ext | apply Bel.alloc | apply Bel.drew | exact Bel.refl _))); rintro ee ww ⟨v0, g0, rfl, rfl, hown⟩) | (go_at_call 41; refine Calls.mono (HB.out _ _ (Rd.bel (rd_of_row (own_cast hown (mapB_len F N).symm rfl)) ?_)) ?_; (focus (repeat (first | with_reducible exact Bel.refl _ | with_reducible assumption | apply Bel.ext | apply Bel.alloc | apply Bel.drew | exact Bel.refl _))); rintro ee ww ⟨v1, g1, rfl, rfl, hown1⟩; obtain ⟨a1, c1, rfl, hle1, hcap1⟩ := own_len hown1))
    rw [← HR.out]
    exact RetRow.mk' rfl (by (repeat (first | with_reducible exact Bel.refl _ | with_reducible assumption | apply Bel.ext | apply Bel.alloc | apply Bel.drew | exact Bel.refl _ | refine Bel.set ?_ (by first | (simp; done) | (simp [go_sem]; done) | omega) _)) : Bel _ _) (World.ownsRow_nil _ _ _ _)
  rw [if_neg (by simp [hS])] at HR
  obtain ⟨aa, M, cc, rfl, hs⟩ := hu.sl
  have hcap := hs.le; have hmax := hs.cap
  unfold maxLen at hmax
  have HL := Lib.hid hs.len
  rw [← HL.out] at hM30
  have HALL : Hid (∀ i, i < N → ∃ f ∈ xs.map (shB e p N), f i = true) := Lib.hid (fun i hi => by
    have h9 := (maskOf_inj (f := allF e p N xs) (g := fun _ => true) (n := N)).1 (by rw [hS, maskOf_all]) i hi
    unfold allF at h9
    obtain ⟨x, hx, hb⟩ := List.any_eq_true.1 h9
    exact ⟨_, List.mem_map.2 ⟨x, hx, rfl⟩, hb⟩)
  have HFL : Hid ((xs.map (shB e p N)).length = M) := Lib.hid (by rw [List.length_map, HL.out])
  have HAT : Hid (∀ (k : Nat) (x : Int × Int), xs[k]? = some x → (xs.map (shB e p N))[k]? = some (shB e p N x)) := Lib.hid (fun k x hx => by rw [List.getElem?_map, hx]; rfl)
  have HG : Hid (∀ (k : Nat) (x : Int × Int), xs[k]? = some x → 0 ≤ x.1 ∧ x.1 ≤ 10000000 ∧ 0 ≤ x.2 ∧ x.2 ≤ 10000000 ∧ x.1 ≤ x.2) := Lib.hid (fun k x hx' => windowsB_get h2 hx')
  have HE := Lib.hid h1
  rw [← HL.out] at HR
  have HB := Lib.hid (fun f b u w hu => l16List_c f N hN b u w hu)
  have HNONE : Hid (∀ f, ((idxL (fun i => f i == false) N).length == 0) = (maskOf f N == 2 ^ N - 1)) := Lib.hid (fun f => idxL_none f N)
  have h9 := HNONE.out (allF e p N xs)
  rw [show (maskOf (allF e p N xs) N == 2 ^ N - 1) = true from by simp [hS]] at h9
  have hy : (idxL (fun i => allF e p N xs i == false) N).length = 0 := by simpa using h9
  have HB0 := Lib.hid (HB.out (allF e p N xs) false)
  rw [hy] at HB0
  clear h9 hy hS
  generalize allF e p N xs = F at *
  generalize xs.map (shB e p N) = fs at *
  generalize idxL (fun i => F i == false) N = ys at *
  clear h1 h2 hu
  go_enter Try.func26, Try.ntmps26
  go_wp2_with (first | (go_at_call 40; refine Calls.mono (HS.out _ (hs.rd.bel ?_)) ?_; (focus (repeat (first | with_reducible exact Bel.refl _ | with_reducible assumption | apply Bel.ext | apply Bel.alloc | apply Bel.drew | exact Bel.refl _))); rintro ee ww ⟨rfl, _, rfl⟩) | (go_at_call 45; refine Calls.mono (HA.out _ (hs.rd.bel ?_)) ?_; (focus (repeat (first | with_reducible exact Bel.refl _ | with_reducible assumption | apply Bel.ext | apply Bel.alloc | apply Bel.drew | exact Bel.refl _))); rintro ee ww ⟨v0, g0, rfl, rfl, hown⟩) | (go_at_call 41; refine Calls.mono (HB0.out _ _ (Rd.bel (rd_of_row (own_cast hown (mapB_len F N).symm rfl)) ?_)) ?_; (focus (repeat (first | with_reducible exact Bel.refl _ | with_reducible assumption | apply Bel.ext | apply Bel.alloc | apply Bel.drew | exact Bel.refl _))); rintro ee ww ⟨v1, g1, rfl, rfl, hown1⟩; obtain ⟨a1, c1, rfl, hle1, hcap1⟩ := own_len hown1) | (at_make; refine wpList_make_fill rfl _ _ 62 4 1 rfl Try.underlying62 (.bool false) rfl (by kernel_rfl) N rfl rfl (by omega) (by omega) ?_; intro g5 hown5))
  clear hown hown1 hle1 hcap1 HB0 HA HS
  have HO5 := Lib.hid hown5
  clear hown5
  have hwA : Bel w (w.alloc (Obj.cells #[.int .i64 e, .int .i64 p] 33)) := by (repeat (first | with_reducible exact Bel.refl _ | with_reducible assumption | apply Bel.ext | apply Bel.alloc | apply Bel.drew | exact Bel.refl _ | refine Bel.set ?_ (by first | (simp; done) | (simp [go_sem]; done) | omega) _))
  have hc0 : (w.alloc (Obj.cells #[.int .i64 e, .int .i64 p] 33)).cell? ⟨w.heap.size, 0, none⟩ = some (.int .i64 e) := by simp [go_sem]
  have hc1 : (w.alloc (Obj.cells #[.int .i64 e, .int .i64 p] 33)).cell? ⟨w.heap.size, 1, none⟩ = some (.int .i64 p) := by simp [go_sem]
  have hz0 : w.heap.size < (w.alloc (Obj.cells #[.int .i64 e, .int .i64 p] 33)).heap.size := by first | (simp; done) | (simp; omega)
  generalize (w.alloc (Obj.cells #[.int .i64 e, .int .i64 p] 33)) = A at *
  have hM := mem_nil A
  clear hM
  have hsA := hs.bel hwA
  go_loopw [9, 10] (fun so o wr => ∃ (h t : Nat → Bool) (d : Nat), Bel A wr ∧ Hid (greedyG fs N (N + 1) (fun _ => false) (fun _ => false) = greedyG fs N d h t) ∧ Hid (N - (idxL h N).length < d) ∧ Hid (Rd celB wr so (mapB h N)) ∧ Hid (wr.ownsRow A.heap.size 2 1 o (idxL t M).length (celI.row (idxL t M)))) (fun so _ wr => N - seenN so N wr)
  case atStart =>
    refine ⟨fun _ => false, fun _ => false, N + 1, by (repeat (first | with_reducible exact Bel.refl _ | with_reducible assumption | apply Bel.ext | apply Bel.alloc | apply Bel.drew | exact Bel.refl _ | refine Bel.set ?_ (by first | (simp; done) | (simp [go_sem]; done) | omega) _)), Lib.hid rfl, Lib.hid (by omega), Lib.hid (Rd.bel (rd_of_row (own_cast HO5.out (mapB_len _ N).symm (rep_false N))) (by (repeat (first | with_reducible exact Bel.refl _ | with_reducible assumption | apply Bel.ext | apply Bel.alloc | apply Bel.drew | exact Bel.refl _ | refine Bel.set ?_ (by first | (simp; done) | (simp [go_sem]; done) | omega) _)))), Lib.hid ?_⟩
    rw [show idxL (fun _ => false) M = [] from by unfold idxL; simp]
    exact own_mono (own_lit _ _ 2 1 [] 0 rfl (Nat.le_refl _) (by unfold maxLen; omega)) (bel_size (by (repeat (first | with_reducible exact Bel.refl _ | with_reducible assumption | apply Bel.ext | apply Bel.alloc | apply Bel.drew | exact Bel.refl _ | refine Bel.set ?_ (by first | (simp; done) | (simp [go_sem]; done) | omega) _)) : Bel A _))
  case round =>
    clear HO5
    obtain ⟨h, t, d, hbel, hv, hd, hrd, hown⟩ := hrel
    obtain ⟨g4, rfl⟩ := ext_ex hbel
    by_cases hall : maskOf h N = 2 ^ N - 1
    · have HF := Lib.hid (hv.out.trans (greedyG_done hall d))
      rw [HF.out] at HR
      have h9 := HNONE.out h
      rw [show (maskOf h N == 2 ^ N - 1) = true from by simp [hall]] at h9
      have hy : (idxL (fun i => h i == false) N).length = 0 := by simpa using h9
      have HB1 := Lib.hid (HB.out h false)
      rw [hy] at HB1
      clear h9 hy HF hv hd HB HNONE hall
      generalize idxL (fun i => h i == false) N = zs at *
      obtain ⟨ao, co, rfl, hleo, hcapo⟩ := own_len hown.out
      go_wp2_with (first | (go_at_call 41; refine Calls.mono (HB1.out _ _ (Rd.bel hrd.out ?_)) ?_; (focus (repeat (first | with_reducible exact Bel.refl _ | with_reducible assumption | apply Bel.ext | apply Bel.alloc | apply Bel.drew | exact Bel.refl _))); rintro ee wz ⟨v1, g1, rfl, rfl, hown1⟩; obtain ⟨a1, c1, rfl, hle1, hcap1⟩ := own_len hown1))
      rw [← HR.out]
      refine RetRow.mk' rfl ?_ (own_mono (own_bel hown.out ?_) hwA.size)
      · exact Below.trans hwA (Below.mono (by (repeat (first | with_reducible exact Bel.refl _ | with_reducible assumption | apply Bel.ext | apply Bel.alloc | apply Bel.drew | exact Bel.refl _ | refine Bel.set ?_ (by first | (simp; done) | (simp [go_sem]; done) | omega) _)) : Bel A _) hwA.size)
      · (repeat (first | with_reducible exact Bel.refl _ | with_reducible assumption | apply Bel.ext | apply Bel.alloc | apply Bel.drew | exact Bel.refl _ | refine Bel.set ?_ (by first | (simp; done) | (simp [go_sem]; done) | omega) _))
    · have hp := pickG_pos HALL.out (fun hq => hall (by rw [← maskOf_all, maskOf_inj]; exact hq))
      have h9 := HNONE.out h
      rw [show (maskOf h N == 2 ^ N - 1) = false from by simp [hall]] at h9
      have HB1 := Lib.hid (HB.out h false)
      have hy : (0 : Int) < ((idxL (fun i => h i == false) N).length : Int) := by
        have : (idxL (fun i => h i == false) N).length ≠ 0 := by simpa using h9
        omega
      have hyN : 0 < (idxL (fun i => h i == false) N).length := by omega
      clear h9
      generalize idxL (fun i => h i == false) N = zs at *
      go_wp2_with (first | (go_at_call 41; refine Calls.mono (HB1.out _ _ (Rd.bel hrd.out ?_)) ?_; (focus (repeat (first | with_reducible exact Bel.refl _ | with_reducible assumption | apply Bel.ext | apply Bel.alloc | apply Bel.drew | exact Bel.refl _))); rintro ee wz ⟨v1, g1, rfl, rfl, hown1⟩; obtain ⟨a1, c1, rfl, hle1, hcap1⟩ := own_len hown1))
      clear hown1 hle1 hcap1
      have hsX := hsA.bel ((Bel.refl A).ext g4)
      have hc0X : (ext A g4).cell? ⟨w.heap.size, 0, none⟩ = some (.int .i64 e) := by rw [Below.cell ((Bel.refl A).ext g4) (p := ⟨w.heap.size, 0, none⟩) hz0]; exact hc0
      have hc1X : (ext A g4).cell? ⟨w.heap.size, 1, none⟩ = some (.int .i64 p) := by rw [Below.cell ((Bel.refl A).ext g4) (p := ⟨w.heap.size, 1, none⟩) hz0]; exact hc1
      have hzX : w.heap.size < (ext A g4).heap.size := Nat.lt_of_lt_of_le hz0 ((Bel.refl A).ext g4).size
      have hAX : Bel A (ext A g4) := (Bel.refl A).ext g4
      clear hc0 hc1 hz0 hsA hs hbel
      generalize hXE : ext A g4 = X at *
      have HXE := Lib.hid hXE
      clear hXE
      go_loopw [11, 12, 13] (fun b m i wr => ∃ (k bb mm : Nat) (x : Int), k ≤ M ∧ i = .int .i64 k ∧ b = .int .i64 bb ∧ m = .int .i64 x ∧ Bel X wr ∧ Hid (PickInv fs h N k bb mm x)) (fun _ _ i _ => M - (intOf i).toNat)
      case atStart => exact ⟨0, 0, 0, -1, Nat.zero_le _, rfl, rfl, rfl, by (repeat (first | with_reducible exact Bel.refl _ | with_reducible assumption | apply Bel.ext | apply Bel.alloc | apply Bel.drew | exact Bel.refl _ | refine Bel.set ?_ (by first | (simp; done) | (simp [go_sem]; done) | omega) _)), Lib.hid (pickInv_start fs h N)⟩
      case round =>
        obtain ⟨k, bb, mm, x, hk, rfl, rfl, rfl, hbel, hpi⟩ := hrel
        obtain ⟨g6, rfl⟩ := ext_ex hbel
        by_cases hlt : k < M
        · obtain ⟨ab, off, rfl, hb⟩ := hsX.base hlt
          obtain ⟨x0, y0, hx, hd0, hd1⟩ := hsX.at2 hlt
          obtain ⟨x1, x2, y1, y2, xy⟩ := HG.out k _ hx.out
          dsimp only at x1 x2 y1 y2 xy
          have HX := Lib.hid (HAT.out k _ hx.out)
          have HSH := Lib.hid (fun w => l16Shown_c e p x0 y0 N HE.out x1 x2 y1 y2 (by omega) (by omega) n3 xy w)
          generalize shB e p N (x0, y0) = f at *
          have HJ := Lib.hid (fun u v w hu hv => l16Join_c h f N hN u v w hu hv)
          have HB2 := Lib.hid (HB.out (fun i => h i || f i) true)
          rw [idxL_true] at HB2
          have HHit := Lib.hid (fun hl => pickInv_hit hpi.out HX.out hl)
          have HSk := Lib.hid (fun hl => pickInv_skip hpi.out HX.out hl)
          generalize idxL (fun i => h i || f i) N = js at *
          clear x1 x2 y1 y2 xy
          go_wp2_with fail
          go_region_held3 (fun q => q.cell? ⟨w.heap.size, 0, none⟩ = some (.int .i64 e) ∧ q.cell? ⟨w.heap.size, 1, none⟩ = some (.int .i64 p) ∧ q.cell? ⟨ab, off + k * 2, none⟩ = some (.int .i64 x0) ∧ q.cell? ⟨ab, off + k * 2 + 1, none⟩ = some (.int .i64 y0)) (simp [go_sem, *]) (first | (go_at_call 42; refine Calls.mono (HSH.out _) ?_; rintro ee ww ⟨v1, g1, rfl, rfl, hrow1⟩) | (go_at_call 49; refine Calls.mono (HJ.out _ _ _ (Rd.bel hrd.out ?_) (Rd.bel (rd_of_row (own_cast hrow1 (mapB_len f N).symm rfl)) ?_)) ?_; (focus (repeat (first | with_reducible exact Bel.refl _ | with_reducible assumption | apply Bel.ext | apply Bel.alloc | apply Bel.drew | exact Bel.refl _))); (focus (repeat (first | with_reducible exact Bel.refl _ | with_reducible assumption | apply Bel.ext | apply Bel.alloc | apply Bel.drew | exact Bel.refl _))); rintro ee ww ⟨v2, g2, rfl, rfl, hrow2⟩) | (go_at_call 41; refine Calls.mono (HB2.out _ _ (Rd.bel (rd_of_row (own_cast hrow2 (mapB_len _ N).symm rfl)) ?_)) ?_; (focus (repeat (first | with_reducible exact Bel.refl _ | with_reducible assumption | apply Bel.ext | apply Bel.alloc | apply Bel.drew | exact Bel.refl _))); rintro ee ww ⟨v3, g3, rfl, rfl, hrow3⟩; obtain ⟨a3, c3, rfl, hle3, hcap3⟩ := own_len hrow3))
          clear hrow1 hrow2 hrow3 hle3 hcap3
          by_cases hgt : x < (js.length : Int)
          · have HN := Lib.hid (HHit.out (by omega))
            clear HHit HSk hpi
            go_wp2
            go_roundw
            case rel => exact ⟨k + 1, k, gainN f h N, (js.length : Int), by omega, by go_num, rfl, rfl, by (repeat (first | with_reducible exact Bel.refl _ | with_reducible assumption | apply Bel.ext | apply Bel.alloc | apply Bel.drew | exact Bel.refl _ | refine Bel.set ?_ (by first | (simp; done) | (simp [go_sem]; done) | omega) _)), HN⟩
            case measure => simp [intOf]; omega
          · have HN := Lib.hid (HSk.out (by omega))
            clear HHit HSk hpi
            go_wp2
            go_roundw
            case rel => exact ⟨k + 1, bb, mm, x, by omega, by go_num, rfl, rfl, by (repeat (first | with_reducible exact Bel.refl _ | with_reducible assumption | apply Bel.ext | apply Bel.alloc | apply Bel.drew | exact Bel.refl _ | refine Bel.set ?_ (by first | (simp; done) | (simp [go_sem]; done) | omega) _)), HN⟩
            case measure => simp [intOf]; omega
        · have hkM : k = M := by omega
          subst hkM
          have hpk := pickInv_end hpi.out (by rw [HFL.out]; exact Nat.le_refl _)
          obtain ⟨f, hf, hgn⟩ := pickG_at hp
          have HST := Lib.hid (fun d => greedyG_step (t := t) hall hf d)
          have HRM := Lib.hid (round_more hp hgn)
          rw [hpk] at hf HST
          have hbM : bb < k := by have := (List.getElem?_eq_some_iff.1 hf).1; rw [HFL.out] at this; exact this
          obtain ⟨ab, off, rfl, hb⟩ := hsX.base hbM
          obtain ⟨x0, y0, hx, hd0, hd1⟩ := hsX.at2 hbM
          obtain ⟨x1, x2, y1, y2, xy⟩ := HG.out bb _ hx.out
          dsimp only at x1 x2 y1 y2 xy
          have HX := HAT.out bb _ hx.out
          rw [hf] at HX
          have HSH := Lib.hid (fun w => l16Shown_c e p x0 y0 N HE.out x1 x2 y1 y2 (by omega) (by omega) n3 xy w)
          rw [← Option.some.inj HX] at HSH
          clear HX
          have HJ := Lib.hid (fun u v w hu hv => l16Join_c h f N hN u v w hu hv)
          obtain ⟨d', rfl⟩ : ∃ d', d = d' + 1 := ⟨d - 1, by have := hd.out; omega⟩
          have HPL := Lib.hid (fun u w hu => l00Put_c u (idxL t k) (bb : Int) (Nat.le_trans (idxL_len _ _) (by omega)) w hu)
          rw [put_idx t bb k hbM] at HPL
          have HLE := Lib.hid (idxL_len (fun i => h i || f i) N)
          clear x1 x2 y1 y2 xy hpk hf hgn hp hpi
          go_wp2_with fail
          go_region_held3 (fun q => q.cell? ⟨w.heap.size, 0, none⟩ = some (.int .i64 e) ∧ q.cell? ⟨w.heap.size, 1, none⟩ = some (.int .i64 p) ∧ q.cell? ⟨ab, off + bb * 2, none⟩ = some (.int .i64 x0) ∧ q.cell? ⟨ab, off + bb * 2 + 1, none⟩ = some (.int .i64 y0)) (simp [go_sem, *]) (first | (go_at_call 42; refine Calls.mono (HSH.out _) ?_; rintro ee ww ⟨v1, g1, rfl, rfl, hrow1⟩) | (go_at_call 49; refine Calls.mono (HJ.out _ _ _ (Rd.bel hrd.out ?_) (Rd.bel (rd_of_row (own_cast hrow1 (mapB_len f N).symm rfl)) ?_)) ?_; (focus (repeat (first | with_reducible exact Bel.refl _ | with_reducible assumption | apply Bel.ext | apply Bel.alloc | apply Bel.drew | exact Bel.refl _))); (focus (repeat (first | with_reducible exact Bel.refl _ | with_reducible assumption | apply Bel.ext | apply Bel.alloc | apply Bel.drew | exact Bel.refl _))); rintro ee ww ⟨v2, g2, rfl, rfl, hrow2⟩))
          go_wp2_with (first | (go_at_call 50; refine Calls.mono (HPL.out _ _ (Rd.bel (rd_of_row hown.out) ?_)) ?_; (focus (repeat (first | with_reducible exact Bel.refl _ | with_reducible assumption | apply Bel.ext | apply Bel.alloc | apply Bel.drew | exact Bel.refl _))); rintro ee ww ⟨v4, g4, rfl, rfl, hrow4⟩))
          go_roundw
          case rel =>
            refine ⟨fun i => h i || f i, fun i => t i || i == bb, d', ?_, Lib.hid (hv.out.trans (HST.out d')), Lib.hid (by have := hd.out; have := HRM.out; have := HLE.out; omega), Lib.hid (Rd.bel (rd_of_row (own_cast hrow2 (mapB_len _ N).symm rfl)) (by (repeat (first | with_reducible exact Bel.refl _ | with_reducible assumption | apply Bel.ext | apply Bel.alloc | apply Bel.drew | exact Bel.refl _ | refine Bel.set ?_ (by first | (simp; done) | (simp [go_sem]; done) | omega) _)))), Lib.hid (own_mono hrow4 ?_)⟩
            · exact Below.trans hAX (Below.mono (by (repeat (first | with_reducible exact Bel.refl _ | with_reducible assumption | apply Bel.ext | apply Bel.alloc | apply Bel.drew | exact Bel.refl _ | refine Bel.set ?_ (by first | (simp; done) | (simp [go_sem]; done) | omega) _)) : Bel X _) hAX.size)
            · exact Nat.le_trans hAX.size (bel_size (by (repeat (first | with_reducible exact Bel.refl _ | with_reducible assumption | apply Bel.ext | apply Bel.alloc | apply Bel.drew | exact Bel.refl _ | refine Bel.set ?_ (by first | (simp; done) | (simp [go_sem]; done) | omega) _)) : Bel X _))
          case measure =>
            rw [seenN_eq (f := fun i => h i || f i) (Rd.bel (rd_of_row (own_cast hrow2 (mapB_len _ N).symm rfl)) (by (repeat (first | with_reducible exact Bel.refl _ | with_reducible assumption | apply Bel.ext | apply Bel.alloc | apply Bel.drew | exact Bel.refl _ | refine Bel.set ?_ (by first | (simp; done) | (simp [go_sem]; done) | omega) _)))), HXE.out, seenN_eq (f := h) hrd.out]
            have := HRM.out; have := HLE.out; omega
end Go.Proofs.Ytpfemaonipcbgaa
