/- Products of wide numbers: what the reference returns. -/
import Derived.Test.YtdneffnnpjgnbaaWide
namespace Go.Proofs.Ytdneffnnpjgnbaa
open Go.RowKit

def rowInv (f : Nat → Int) (n N : Nat) (b : Int) (m k : Nat) (h : Nat → Int) : Prop := digs h ∧ (∀ i, k + m ≤ i → h i = 0) ∧ wsum h N = wsum f k * b
def digInv (f g : Nat → Int) (N : Nat) (b : Int) (m k j : Nat) (h : Nat → Int) (y : Int) : Prop :=
  digs h ∧ (∀ i, k + m ≤ i → h i = 0) ∧ 0 ≤ y ∧ y < 1000000000 ∧ wsum h N + y * 1000000000 ^ (k + j) = wsum f k * b + f k * 1000000000 ^ k * wsum g j
theorem rowInv_start (f : Nat → Int) (n N m : Nat) (b : Int) : rowInv f n N b m 0 (fun _ => 0) := by
  refine ⟨fun i => ⟨by simp, by simp⟩, fun _ _ => rfl, ?_⟩
  have : ∀ M, wsum (fun _ => 0) M = 0 := fun M => by
    induction M with
    | zero => rfl
    | succ M ih => rw [wsum, ih]; omega
  rw [this, wsum]; omega
theorem digInv_start {f g : Nat → Int} {n N m k : Nat} {b : Int} {h : Nat → Int} (hh : rowInv f n N b m k h) : digInv f g N b m k 0 h 0 :=
  ⟨hh.1, hh.2.1, by omega, by omega, by rw [wsum, hh.2.2]; omega⟩
theorem digInv_step {f g : Nat → Int} {N m k j : Nat} {b : Int} {h : Nat → Int} {y : Int} (hf : digs f) (hg : digs g) (hh : digInv f g N b m k j h y) (hj : j < m) (hN : k + j < N) :
    digInv f g N b m k (j + 1) (upd h (k + j) ((h (k + j) + f k * g j + y) % 1000000000)) ((h (k + j) + f k * g j + y) / 1000000000) := by
  obtain ⟨h1, h2, h3, h4, h5⟩ := hh
  obtain ⟨b1, b2, b3, b4⟩ := digit_bd (hf k).1 (hf k).2 (hg j).1 (hg j).2 (h1 (k + j)).1 (h1 (k + j)).2 h3 h4
  refine ⟨upd_digs h1 (by omega) (by omega), fun i hi => by rw [upd_ne h _ (by omega)]; exact h2 i hi, b3, b4, ?_⟩
  rw [wsum]
  exact times_step hN h5
theorem digInv_end {f g : Nat → Int} {n N m k : Nat} {b : Int} {h : Nat → Int} {y : Int} (hh : digInv f g N b m k m h y) (hg : wsum g m = b) (hN : k + m < N) : rowInv f n N b m (k + 1) (upd h (k + m) y) := by
  obtain ⟨h1, h2, h3, h4, h5⟩ := hh
  refine ⟨upd_digs h1 h3 h4, fun i hi => by rw [upd_ne h _ (by omega)]; exact h2 i (by omega), ?_⟩
  rw [wsum_upd _ _ _ _ hN, h2 _ (Nat.le_refl _), wsum, Int.sub_zero, h5, hg, Int.add_mul]
theorem rowInv_end {f : Nat → Int} {n m : Nat} {a b : Int} {h : Nat → Int} (hh : rowInv f n (n + m) b m n h) (hf : wsum f n = a) : WFd h (n + m) (a * b) :=
  ⟨hh.1, hh.2.1, by rw [hh.2.2, hf]⟩
theorem cmp_wsum {f : Nat → Int} {n : Nat} {a : Int} (h : WFd f n a) {m : Nat} (hm : n ≤ m) : wsum f m = a := by rw [wsum_more h.2.1 m hm, h.2.2]
theorem cmp_lt {f g : Nat → Int} {n m : Nat} {a b : Int} (hf : WFd f n a) (hg : WFd g m b) {q : Nat} (h : f q < g q) (he : ∀ j, q < j → f j = g j) : a < b := by
  have h1 := cmp_wsum hf (m := n + m + q + 1) (by omega)
  have h2 := cmp_wsum hg (m := n + m + q + 1) (by omega)
  rw [← h1, ← h2]
  exact wsum_lt hf.1 hg.1 _ (by omega) h fun i h3 _ => he i h3
theorem cmp_eq {f g : Nat → Int} {n m : Nat} {a b : Int} (hf : WFd f n a) (hg : WFd g m b) (he : ∀ j, f j = g j) : a = b := by
  rw [← cmp_wsum hf (m := n + m) (by omega), ← cmp_wsum hg (m := n + m) (by omega)]
  exact wsum_congr fun i _ => he i
set_option maxHeartbeats 4000000 in
theorem l12Times_c (u v : Value) (f g : Nat → Int) (n m : Nat) (a b : Int) (w : World) (hu : Rd celI w u (mapI f n)) (hv : Rd celI w v (mapI g m)) (hf : WFd f n a) (hg : WFd g m b) (hn : n ≤ 1000) (hm : m ≤ 1000) :
    Calls Try.prog 37 #[u, v] w (RetWide 2 (a * b) (n + m) w) := by
  generalize hR : RetWide 2 (a * b) (n + m) w = R
  have HR := Lib.hid hR
  clear hR
  obtain ⟨a1, n1, c1, rfl, hs⟩ := hu.sl
  obtain ⟨a2, n2, c2, rfl, hs2⟩ := hv.sl
  have hl1 := hs.len
  have hl2 := hs2.len
  rw [mapI_len] at hl1 hl2
  subst hl1 hl2
  have hcap := hs.le; have hmax := hs.cap; have hcap2 := hs2.le; have hmax2 := hs2.cap
  unfold maxLen at hmax hmax2
  have HF := Lib.hid hf
  have HG := Lib.hid hg
  clear hf hg hu hv
  go_enter Try.func37, Try.ntmps37
  go_wp2_with (at_make; refine wpList_make_fillV rfl _ _ 57 2 8 rfl Try.underlying57 (.int .i64 0) rfl (by kernel_rfl) (n1 + n2) rfl rfl (by omega) (by omega) ?_; intro g5 hown5)
  have HO5 := Lib.hid hown5
  clear hown5
  obtain ⟨N, hN⟩ : ∃ N, n1 + n2 = N := ⟨_, rfl⟩
  have HN := Lib.hid hN
  rw [HN.out] at HO5 HR
  rw [HN.out]
  have hN1 : N ≤ 2000 := by omega
  clear hN
  go_loopw [6] (fun i wr => ∃ (k : Nat) (h : Nat → Int), k ≤ n1 ∧ i = .int .i64 k ∧ Bel w wr ∧ Hid (rowInv f n1 N b n2 k h) ∧ Hid (wr.ownsRow w.heap.size 2 1 (.slice (some ⟨w.heap.size, 0, none⟩) N N) N (celI.row (mapI h N)))) (fun i _ => n1 - (intOf i).toNat)
  case atStart => exact ⟨0, fun _ => 0, Nat.zero_le _, rfl, by (repeat (first | with_reducible exact Bel.refl _ | with_reducible assumption | apply Bel.ext | apply Bel.alloc | apply Bel.drew | exact Bel.refl _ | refine Bel.set ?_ (by first | (simp; done) | (simp [go_sem]; done) | omega) _)), Lib.hid (rowInv_start f n1 N n2 b), Lib.hid (own_castW HO5.out rfl (rep_zero N))⟩
  case round =>
    clear HO5
    obtain ⟨k, h, hk, rfl, hbel, hi, hown⟩ := hrel
    obtain ⟨g4, rfl⟩ := ext_ex hbel
    by_cases hlt : k < n1
    · obtain ⟨ab, off, rfl, hb⟩ := hs.base hlt
      have hck := hs.atM hlt
      go_wp2
      go_loopw [7, 8] (fun c j wr => ∃ (q : Nat) (h : Nat → Int) (y : Int), q ≤ n2 ∧ j = .int .i64 q ∧ c = .int .i64 y ∧ 0 ≤ y ∧ y < 1000000000 ∧ Bel w wr ∧ Hid (digInv f g N b n2 k q h y) ∧ Hid (wr.ownsRow w.heap.size 2 1 (.slice (some ⟨w.heap.size, 0, none⟩) N N) N (celI.row (mapI h N)))) (fun _ j _ => n2 - (intOf j).toNat)
      case atStart => exact ⟨0, h, 0, Nat.zero_le _, rfl, rfl, by omega, by omega, by (repeat (first | with_reducible exact Bel.refl _ | with_reducible assumption | apply Bel.ext | apply Bel.alloc | apply Bel.drew | exact Bel.refl _ | refine Bel.set ?_ (by first | (simp; done) | (simp [go_sem]; done) | omega) _)), Lib.hid (digInv_start hi.out), hown⟩
      case round =>
        clear hown hi
        obtain ⟨q, h, y, hq, rfl, rfl, y0, y1, hbel, hd, hown⟩ := hrel
        obtain ⟨g6, rfl⟩ := ext_ex hbel
        obtain ⟨bb, cc, hv2, hbb1, hbb2, -, -, hc, hfz⟩ := own_far hown.out (by have := HN.out; omega)
        cases hv2
        by_cases hlt2 : q < n2
        · obtain ⟨ab2, off2, rfl, hb2⟩ := hs2.base hlt2
          have hcq := hs2.atM hlt2
          have hkN : k + q < N := by have := HN.out; omega
          have hco : farCell w g6 w.heap.size (k + q) = some (.int .i64 (h (k + q))) := hc _ _ (by rw [row_mapI]; simp [hkN])
          have hfo := hfz (k + q)
          have HS := Lib.hid (digInv_step HF.out.1 HG.out.1 hd.out hlt2 hkN)
          obtain ⟨b1, b2, b3, b4⟩ := digit_bd (HF.out.1 k).1 (HF.out.1 k).2 (HG.out.1 q).1 (HG.out.1 q).2 (hd.out.1 (k + q)).1 (hd.out.1 (k + q)).2 y0 y1
          have z0 := (hd.out.1 (k + q)).1
          have z1 := (hd.out.1 (k + q)).2
          have e1 : IntKind.i64.wrap (f k * g q) = f k * g q := IntWalk.i64_in _ ⟨by omega, by omega⟩
          have e2 : IntKind.i64.wrap (h (k + q) + f k * g q) = h (k + q) + f k * g q := IntWalk.i64_in _ ⟨by omega, by omega⟩
          obtain ⟨X, hX⟩ : ∃ X, h (k + q) + f k * g q + y = X := ⟨_, rfl⟩
          have e3 : IntKind.i64.wrap (h (k + q) + f k * g q + y) = X := by rw [hX]; exact IntWalk.i64_in _ ⟨by omega, by omega⟩
          have x0 : 0 ≤ X := by omega
          have x1 : X ≤ 2000000000000000000 := by omega
          rw [hX] at HS b3 b4
          have i1 : IntKind.i64.wrap ((k : Int) + q) = (k : Int) + q := IntWalk.i64_in _ ⟨by omega, by omega⟩
          have i2 : ((k : Int) + q).toNat = k + q := by omega
          have i3 : (0 : Int) ≤ (k : Int) + q := by omega
          have i4 : (k : Int) + q < N := by omega
          clear hc hfz b1 b2 z0 z1 hX
          go_wp2_with fail
          refine region_ext (by kernel_rfl) (by kernel_rfl) ?_
          repeat (go_big_quiet_step (fail))
          refine wpQuiet_nil ?_
          rintro _ ⟨g7, rfl⟩
          clear e1 e2 e3 i1
          go_wp2
          go_roundw
          case rel =>
            refine ⟨q + 1, upd h (k + q) (X % 1000000000), X / 1000000000, by omega, by go_num, rfl, b3, b4, by (repeat (first | with_reducible exact Bel.refl _ | with_reducible assumption | with_reducible apply Bel.ext | with_reducible apply Bel.alloc | with_reducible apply Bel.drew | ((with_reducible refine Bel.set ?_ ?_ _); rotate_left; (focus (first | omega | (simp; done) | (simp [go_sem]; done) | (dsimp only; omega)))))), HS, Lib.hid ?_⟩
            rw [← set_mapI h hkN]
            exact own_stored (own_bel hown.out (by (repeat (first | with_reducible exact Bel.refl _ | with_reducible assumption | with_reducible apply Bel.ext | with_reducible apply Bel.alloc | with_reducible apply Bel.drew | ((with_reducible refine Bel.set ?_ ?_ _); rotate_left; (focus (first | omega | (simp; done) | (simp [go_sem]; done) | (dsimp only; omega)))))))) _ _
          case measure => simp [intOf]; omega
        · have hqe : q = n2 := by omega
          subst hqe
          have hkN : k + q < N := by have := HN.out; omega
          have hco : farCell w g6 w.heap.size (k + q) = some (.int .i64 (h (k + q))) := hc _ _ (by rw [row_mapI]; simp [hkN])
          have hfo := hfz (k + q)
          have i2 : ((k : Int) + q).toNat = k + q := by omega
          have i4 : (k : Int) + q < N := by omega
          have HS := Lib.hid (digInv_end (n := n1) hd.out HG.out.2.2 hkN)
          clear hc hfz
          go_wp2
          go_roundw
          case rel =>
            refine ⟨k + 1, upd h (k + q) y, by omega, by go_num, by (repeat (first | with_reducible exact Bel.refl _ | with_reducible assumption | with_reducible apply Bel.ext | with_reducible apply Bel.alloc | with_reducible apply Bel.drew | ((with_reducible refine Bel.set ?_ ?_ _); rotate_left; (focus (first | omega | (simp; done) | (simp [go_sem]; done) | (dsimp only; omega)))))), HS, Lib.hid ?_⟩
            rw [← set_mapI h hkN]
            exact own_stored (own_bel hown.out (by (repeat (first | with_reducible exact Bel.refl _ | with_reducible assumption | with_reducible apply Bel.ext | with_reducible apply Bel.alloc | with_reducible apply Bel.drew | ((with_reducible refine Bel.set ?_ ?_ _); rotate_left; (focus (first | omega | (simp; done) | (simp [go_sem]; done) | (dsimp only; omega)))))))) _ _
          case measure => simp [intOf]; omega
    · have hke : k = n1 := by omega
      subst hke
      go_wp2
      rw [← HR.out]
      refine RetWide.mk' (by (repeat (first | with_reducible exact Bel.refl _ | with_reducible assumption | with_reducible apply Bel.ext | with_reducible apply Bel.alloc | with_reducible apply Bel.drew | ((with_reducible refine Bel.set ?_ ?_ _); rotate_left; (focus (first | omega | (simp; done) | (simp [go_sem]; done) | (dsimp only; omega))))))) hown.out ?_ (Nat.le_refl _)
      have h9 := hi.out
      rw [← HN.out] at h9 ⊢
      exact rowInv_end h9 HF.out.2.2
set_option maxHeartbeats 4000000 in
theorem l12Compare_c (u v : Value) (f g : Nat → Int) (n m : Nat) (a b : Int) (w : World) (hu : Rd celI w u (mapI f n)) (hv : Rd celI w v (mapI g m)) (hf : WFd f n a) (hg : WFd g m b) (hn : n ≤ 3000) (hm : m ≤ 3000) :
    Calls Try.prog 51 #[u, v] w (Ret (.int .i64 (cmpI a b)) w) := by
  refine hide_ret fun r H => ?_
  obtain ⟨a1, n1, c1, rfl, hs⟩ := hu.sl
  obtain ⟨a2, n2, c2, rfl, hs2⟩ := hv.sl
  have hl1 := hs.len
  have hl2 := hs2.len
  rw [mapI_len] at hl1 hl2
  subst hl1 hl2
  have hcap := hs.le; have hmax := hs.cap; have hcap2 := hs2.le; have hmax2 := hs2.cap
  unfold maxLen at hmax hmax2
  have HF := Lib.hid hf
  have HG := Lib.hid hg
  have HLT : Hid (∀ q, f q < g q → (∀ j, q < j → f j = g j) → a < b) := Lib.hid (fun q h1 h2 => cmp_lt hf hg h1 h2)
  have HGT : Hid (∀ q, g q < f q → (∀ j, q < j → f j = g j) → b < a) := Lib.hid (fun q h1 h2 => cmp_lt hg hf h1 fun j hj => (h2 j hj).symm)
  have HEQ : Hid ((∀ j, f j = g j) → a = b) := Lib.hid (fun h => cmp_eq hf hg h)
  have HZ1 : Hid (∀ q, n1 ≤ q → f q = 0) := Lib.hid hf.2.1
  have HZ2 : Hid (∀ q, n2 ≤ q → g q = 0) := Lib.hid hg.2.1
  clear hf hg hu hv HF HG
  obtain ⟨N, hN⟩ : ∃ N : Nat, N = if n1 < n2 then n2 else n1 := ⟨_, rfl⟩
  have hN1 : n1 ≤ N := by rw [hN]; split <;> omega
  have hN2 : n2 ≤ N := by rw [hN]; split <;> omega
  have hN3 : N ≤ 3000 := by rw [hN]; split <;> omega
  have HN := Lib.hid hN
  clear hN
  go_enter Try.func51, Try.ntmps51
  by_cases hq : n1 < n2
  all_goals
    have hNe := HN.out
    first | rw [if_pos hq] at hNe | rw [if_neg hq] at hNe
    have HNe := Lib.hid hNe
    clear hNe
    go_wp2
    go_loopw [6] (fun i wr => ∃ x : Int, i = .int .i64 x ∧ -1 ≤ x ∧ x < N ∧ (∃ g, wr = ext w g) ∧ Hid (∀ j : Nat, x < j → f j = g j)) (fun i _ => (intOf i + 1).toNat)
    case atStart => exact ⟨_, rfl, by omega, by have := HNe.out; omega, ext_ex (by (repeat (first | with_reducible exact Bel.refl _ | with_reducible assumption | apply Bel.ext | apply Bel.alloc | apply Bel.drew | exact Bel.refl _ | refine Bel.set ?_ (by first | (simp; done) | (simp [go_sem]; done) | omega) _)) : Bel _ _), Lib.hid (fun j hj => by rw [HZ1.out j (by have := HNe.out; omega), HZ2.out j (by have := HNe.out; omega)])⟩
    case round =>
      obtain ⟨x, rfl, x0, x1, ⟨g3, rfl⟩, he⟩ := hrel
      by_cases hx : x < 0
      · have h9 := HEQ.out (fun j => he.out j (by omega))
        have HL := Lib.hid (H.out.symm.trans (by rw [cmpI, if_neg (by omega), if_neg (by omega)] : _ = Value.int .i64 0))
        clear h9
        have p1 : ¬ 0 ≤ x := by omega
        go_wp2
        go_ret
        exact Ret.mk HL.out.symm (by (repeat (first | with_reducible exact Bel.refl _ | with_reducible assumption | apply Bel.ext | apply Bel.alloc | apply Bel.drew | exact Bel.refl _ | refine Bel.set ?_ (by first | (simp; done) | (simp [go_sem]; done) | omega) _)) : Bel _ _)
      obtain ⟨q, rfl⟩ : ∃ q : Nat, x = (q : Int) := ⟨x.toNat, by omega⟩
      have HL1 := Lib.hid (fun h => HLT.out q h (fun j hj => he.out j (by omega)))
      have HL2 := Lib.hid (fun h => HGT.out q h (fun j hj => he.out j (by omega)))
      have he2 : Hid (f q = g q → ∀ j : Nat, (q : Int) - 1 < j → f j = g j) := Lib.hid (fun h j hj => by
        by_cases e : j = q
        · rw [e]; exact h
        · exact he.out j (by omega))
      clear he hx
      have hxN : q < N := by omega
      by_cases a1 : q < n1 <;> by_cases a2 : q < n2
      · obtain ⟨ab, off, rfl, hb⟩ := hs.base a1
        have hck := hs.atM a1
        obtain ⟨ab2, off2, rfl, hb2⟩ := hs2.base a2
        have hcq := hs2.atM a2
        generalize f q = F0 at *
        generalize g q = G0 at *
        have p1 : ¬ (q : Int) < 0 := by omega
        rcases Int.lt_trichotomy F0 G0 with hc | hc | hc
        · have HL := Lib.hid (H.out.symm.trans (by rw [cmpI, if_pos (HL1.out hc)] : _ = Value.int .i64 (-1)))
          go_wp2
          go_ret
          exact Ret.mk HL.out.symm (by (repeat (first | with_reducible exact Bel.refl _ | with_reducible assumption | apply Bel.ext | apply Bel.alloc | apply Bel.drew | exact Bel.refl _ | refine Bel.set ?_ (by first | (simp; done) | (simp [go_sem]; done) | omega) _)) : Bel _ _)
        · have HE := Lib.hid (he2.out hc)
          have c1 : ¬ F0 < G0 := by omega
          have c2 : ¬ G0 < F0 := by omega
          clear hc
          go_wp2
          go_roundw
          case rel => exact ⟨(q : Int) - 1, rfl, by omega, by omega, ext_ex (by (repeat (first | with_reducible exact Bel.refl _ | with_reducible assumption | apply Bel.ext | apply Bel.alloc | apply Bel.drew | exact Bel.refl _ | refine Bel.set ?_ (by first | (simp; done) | (simp [go_sem]; done) | omega) _)) : Bel _ _), HE⟩
          case measure => first | (simp [intOf]; done) | (simp [intOf]; omega)
        · have HL := Lib.hid (H.out.symm.trans (by have h9 := HL2.out hc; rw [cmpI, if_neg (by omega), if_pos h9] : _ = Value.int .i64 1))
          have c1 : ¬ F0 < G0 := by omega
          go_wp2
          go_ret
          exact Ret.mk HL.out.symm (by (repeat (first | with_reducible exact Bel.refl _ | with_reducible assumption | apply Bel.ext | apply Bel.alloc | apply Bel.drew | exact Bel.refl _ | refine Bel.set ?_ (by first | (simp; done) | (simp [go_sem]; done) | omega) _)) : Bel _ _)
      · obtain ⟨ab, off, rfl, hb⟩ := hs.base a1
        have hck := hs.atM a1
        have hz2 := HZ2.out q (by omega)
        generalize f q = F0 at *
        generalize g q = G0 at *
        subst hz2
        have p1 : ¬ (q : Int) < 0 := by omega
        rcases Int.lt_trichotomy F0 (0 : Int) with hc | hc | hc
        · have HL := Lib.hid (H.out.symm.trans (by rw [cmpI, if_pos (HL1.out hc)] : _ = Value.int .i64 (-1)))
          go_wp2
          go_ret
          exact Ret.mk HL.out.symm (by (repeat (first | with_reducible exact Bel.refl _ | with_reducible assumption | apply Bel.ext | apply Bel.alloc | apply Bel.drew | exact Bel.refl _ | refine Bel.set ?_ (by first | (simp; done) | (simp [go_sem]; done) | omega) _)) : Bel _ _)
        · have HE := Lib.hid (he2.out hc)
          have c1 : ¬ F0 < (0 : Int) := by omega
          have c2 : ¬ (0 : Int) < F0 := by omega
          clear hc
          go_wp2
          go_roundw
          case rel => exact ⟨(q : Int) - 1, rfl, by omega, by omega, ext_ex (by (repeat (first | with_reducible exact Bel.refl _ | with_reducible assumption | apply Bel.ext | apply Bel.alloc | apply Bel.drew | exact Bel.refl _ | refine Bel.set ?_ (by first | (simp; done) | (simp [go_sem]; done) | omega) _)) : Bel _ _), HE⟩
          case measure => first | (simp [intOf]; done) | (simp [intOf]; omega)
        · have HL := Lib.hid (H.out.symm.trans (by have h9 := HL2.out hc; rw [cmpI, if_neg (by omega), if_pos h9] : _ = Value.int .i64 1))
          have c1 : ¬ F0 < (0 : Int) := by omega
          go_wp2
          go_ret
          exact Ret.mk HL.out.symm (by (repeat (first | with_reducible exact Bel.refl _ | with_reducible assumption | apply Bel.ext | apply Bel.alloc | apply Bel.drew | exact Bel.refl _ | refine Bel.set ?_ (by first | (simp; done) | (simp [go_sem]; done) | omega) _)) : Bel _ _)
      · have hz1 := HZ1.out q (by omega)
        obtain ⟨ab2, off2, rfl, hb2⟩ := hs2.base a2
        have hcq := hs2.atM a2
        generalize f q = F0 at *
        generalize g q = G0 at *
        subst hz1
        have p1 : ¬ (q : Int) < 0 := by omega
        rcases Int.lt_trichotomy (0 : Int) G0 with hc | hc | hc
        · have HL := Lib.hid (H.out.symm.trans (by rw [cmpI, if_pos (HL1.out hc)] : _ = Value.int .i64 (-1)))
          go_wp2
          go_ret
          exact Ret.mk HL.out.symm (by (repeat (first | with_reducible exact Bel.refl _ | with_reducible assumption | apply Bel.ext | apply Bel.alloc | apply Bel.drew | exact Bel.refl _ | refine Bel.set ?_ (by first | (simp; done) | (simp [go_sem]; done) | omega) _)) : Bel _ _)
        · have HE := Lib.hid (he2.out hc)
          have c1 : ¬ (0 : Int) < G0 := by omega
          have c2 : ¬ G0 < (0 : Int) := by omega
          clear hc
          go_wp2
          go_roundw
          case rel => exact ⟨(q : Int) - 1, rfl, by omega, by omega, ext_ex (by (repeat (first | with_reducible exact Bel.refl _ | with_reducible assumption | apply Bel.ext | apply Bel.alloc | apply Bel.drew | exact Bel.refl _ | refine Bel.set ?_ (by first | (simp; done) | (simp [go_sem]; done) | omega) _)) : Bel _ _), HE⟩
          case measure => first | (simp [intOf]; done) | (simp [intOf]; omega)
        · have HL := Lib.hid (H.out.symm.trans (by have h9 := HL2.out hc; rw [cmpI, if_neg (by omega), if_pos h9] : _ = Value.int .i64 1))
          have c1 : ¬ (0 : Int) < G0 := by omega
          go_wp2
          go_ret
          exact Ret.mk HL.out.symm (by (repeat (first | with_reducible exact Bel.refl _ | with_reducible assumption | apply Bel.ext | apply Bel.alloc | apply Bel.drew | exact Bel.refl _ | refine Bel.set ?_ (by first | (simp; done) | (simp [go_sem]; done) | omega) _)) : Bel _ _)
      · exfalso; have := HNe.out; omega
set_option maxHeartbeats 8000000 in
theorem l12Count_c (u v : Value) (f g : Nat → Int) (n m : Nat) (T W K : Int) (strict : Bool) (w : World) (hu : Rd celI w u (mapI f n)) (hv : Rd celI w v (mapI g m)) (hf : WFd f n T) (hg : WFd g m W) (hn : n ≤ 100) (hm : m ≤ 100) (hK : 0 ≤ K)
    (hQ : ∀ k, 0 ≤ k → ((if strict = true then T < W * (2 * k + 1) else T ≤ W * (2 * k + 1)) ↔ K ≤ k)) :
    Calls Try.prog 38 #[u, v, .bool strict] w (Ret (.int .i64 (minI K 50000)) w) := by
  refine hide_ret fun r H => ?_
  have HF := Lib.hid hf
  have HG := Lib.hid hg
  have HQ := Lib.hid hQ
  clear hf hg hQ
  go_enter Try.func38, Try.ntmps38
  go_wp2
  go_loopw [7, 8] (fun l h wr => ∃ lo hi : Int, l = .int .i64 lo ∧ h = .int .i64 hi ∧ -1 ≤ lo ∧ lo < hi ∧ hi ≤ 50000 ∧ Bel w wr ∧ Hid (lo < K ∧ (K ≤ hi ∨ hi = 50000))) (fun l h _ => (intOf h - intOf l).toNat)
  case atStart => exact ⟨-1, 50000, rfl, rfl, by omega, by omega, by omega, by (repeat (first | with_reducible exact Bel.refl _ | with_reducible assumption | apply Bel.ext | apply Bel.alloc | apply Bel.drew | exact Bel.refl _ | refine Bel.set ?_ (by first | (simp; done) | (simp [go_sem]; done) | omega) _)), Lib.hid ⟨by omega, .inr rfl⟩⟩
  case round =>
    obtain ⟨lo, hi, rfl, rfl, l0, lh, h5, hbel, hinv⟩ := hrel
    obtain ⟨g4, rfl⟩ := ext_ex hbel
    by_cases hlt : 1 < hi - lo
    · obtain ⟨M, hM⟩ : ∃ M, (lo + hi) / 2 = M := ⟨_, rfl⟩
      have s0 : 0 ≤ lo + hi := by omega
      have m0 : 0 ≤ M := by omega
      have m1 : lo < M := by omega
      have m2 : M < hi := by omega
      have HW := Lib.hid (fun w => l12Wide_c (2 * M + 1) (by omega) (by omega) w)
      have hq := HQ.out M m0
      generalize hP : W * (2 * M + 1) = P at *
      have HT : Hid (∀ (v1 : Value) (f1 : Nat → Int) (n1 : Nat) (x : World), Bel w x → Rd celI x v1 (mapI f1 n1) → WFd f1 n1 (2 * M + 1) → n1 ≤ 3 → Calls Try.prog 37 #[v, v1] x (RetWide 2 P (m + n1) x)) :=
        Lib.hid (fun v1 f1 n1 x hx h1 h2 h3 => by rw [← hP]; exact l12Times_c v v1 g f1 m n1 W (2 * M + 1) x (hv.bel hx) h1 HG.out h2 (by omega) (by omega))
      have HC : Hid (∀ (v2 : Value) (f2 : Nat → Int) (n2 : Nat) (x : World), Bel w x → Rd celI x v2 (mapI f2 n2) → WFd f2 n2 P → n2 ≤ 103 → Calls Try.prog 51 #[u, v2] x (Ret (.int .i64 (cmpI T P)) x)) :=
        Lib.hid (fun v2 f2 n2 x hx h1 h2 h3 => l12Compare_c u v2 f f2 n n2 T P x (hu.bel hx) h1 HF.out h2 (by omega) (by omega))
      clear hP
      rcases strict with _ | _ <;> rcases Int.lt_trichotomy T P with hc | hc | hc
      all_goals
        first
        | (have hk : K ≤ M := hq.1 (by simp; omega)
           first
           | rw [show cmpI T P = -1 from by rw [cmpI, if_pos (by omega)]] at HC
           | rw [show cmpI T P = 0 from by rw [cmpI, if_neg (by omega), if_neg (by omega)]] at HC
           have HI : Hid (lo < K ∧ (K ≤ M ∨ M = 50000)) := Lib.hid ⟨hinv.out.1, .inl hk⟩
           clear hq hc hinv hk
           go_wp2_with (first | (go_at_call 35; refine Calls.mono (HW.out _) ?_; rintro ee ww ⟨f1, n1, v1, g1, rfl, rfl, ho1, hw1, hl1⟩) | (go_at_call 37; refine Calls.mono (HT.out _ f1 n1 _ ?_ (Rd.bel (rd_of_row (own_castW ho1 (mapI_len f1 n1).symm rfl)) ?_) hw1.out hl1) ?_; (focus (repeat (first | with_reducible exact Bel.refl _ | with_reducible assumption | apply Bel.ext | apply Bel.alloc | apply Bel.drew | exact Bel.refl _))); (focus (repeat (first | with_reducible exact Bel.refl _ | with_reducible assumption | apply Bel.ext | apply Bel.alloc | apply Bel.drew | exact Bel.refl _))); rintro ee ww ⟨f2, n2, v2, g2, rfl, rfl, ho2, hw2, hl2⟩) | (go_at_call 51; refine Calls.mono (HC.out _ f2 n2 _ ?_ (Rd.bel (rd_of_row (own_castW ho2 (mapI_len f2 n2).symm rfl)) ?_) hw2.out (by omega)) ?_; (focus (repeat (first | with_reducible exact Bel.refl _ | with_reducible assumption | apply Bel.ext | apply Bel.alloc | apply Bel.drew | exact Bel.refl _))); (focus (repeat (first | with_reducible exact Bel.refl _ | with_reducible assumption | apply Bel.ext | apply Bel.alloc | apply Bel.drew | exact Bel.refl _))); rintro ee ww ⟨rfl, _, rfl⟩))
           go_roundw
           case rel => exact ⟨lo, M, rfl, rfl, l0, m1, by omega, by (repeat (first | with_reducible exact Bel.refl _ | with_reducible assumption | apply Bel.ext | apply Bel.alloc | apply Bel.drew | exact Bel.refl _ | refine Bel.set ?_ (by first | (simp; done) | (simp [go_sem]; done) | omega) _)), HI⟩
           case measure => simp only [intOf]; omega)
        | (have hk : ¬ K ≤ M := fun e => absurd (hq.2 e) (by simp; omega)
           first
           | rw [show cmpI T P = 1 from by rw [cmpI, if_neg (by omega), if_pos (by omega)]] at HC
           | rw [show cmpI T P = 0 from by rw [cmpI, if_neg (by omega), if_neg (by omega)]] at HC
           have HI : Hid (M < K ∧ (K ≤ hi ∨ hi = 50000)) := Lib.hid ⟨by omega, hinv.out.2⟩
           clear hq hc hinv hk
           go_wp2_with (first | (go_at_call 35; refine Calls.mono (HW.out _) ?_; rintro ee ww ⟨f1, n1, v1, g1, rfl, rfl, ho1, hw1, hl1⟩) | (go_at_call 37; refine Calls.mono (HT.out _ f1 n1 _ ?_ (Rd.bel (rd_of_row (own_castW ho1 (mapI_len f1 n1).symm rfl)) ?_) hw1.out hl1) ?_; (focus (repeat (first | with_reducible exact Bel.refl _ | with_reducible assumption | apply Bel.ext | apply Bel.alloc | apply Bel.drew | exact Bel.refl _))); (focus (repeat (first | with_reducible exact Bel.refl _ | with_reducible assumption | apply Bel.ext | apply Bel.alloc | apply Bel.drew | exact Bel.refl _))); rintro ee ww ⟨f2, n2, v2, g2, rfl, rfl, ho2, hw2, hl2⟩) | (go_at_call 51; refine Calls.mono (HC.out _ f2 n2 _ ?_ (Rd.bel (rd_of_row (own_castW ho2 (mapI_len f2 n2).symm rfl)) ?_) hw2.out (by omega)) ?_; (focus (repeat (first | with_reducible exact Bel.refl _ | with_reducible assumption | apply Bel.ext | apply Bel.alloc | apply Bel.drew | exact Bel.refl _))); (focus (repeat (first | with_reducible exact Bel.refl _ | with_reducible assumption | apply Bel.ext | apply Bel.alloc | apply Bel.drew | exact Bel.refl _))); rintro ee ww ⟨rfl, _, rfl⟩))
           go_roundw
           case rel => exact ⟨M, hi, rfl, rfl, by omega, m2, h5, by (repeat (first | with_reducible exact Bel.refl _ | with_reducible assumption | apply Bel.ext | apply Bel.alloc | apply Bel.drew | exact Bel.refl _ | refine Bel.set ?_ (by first | (simp; done) | (simp [go_sem]; done) | omega) _)), HI⟩
           case measure => simp only [intOf]; omega)
    · have HV := Lib.hid (H.out.symm.trans (by have h9 := hinv.out; have e : minI K 50000 = hi := (by unfold minI; split <;> omega); rw [e] : _ = Value.int .i64 hi))
      clear hinv
      go_wp2
      go_ret
      exact Ret.mk HV.out.symm (by (repeat (first | with_reducible exact Bel.refl _ | with_reducible assumption | apply Bel.ext | apply Bel.alloc | apply Bel.drew | exact Bel.refl _ | refine Bel.set ?_ (by first | (simp; done) | (simp [go_sem]; done) | omega) _)) : Bel _ _)
end Go.Proofs.Ytdneffnnpjgnbaa
