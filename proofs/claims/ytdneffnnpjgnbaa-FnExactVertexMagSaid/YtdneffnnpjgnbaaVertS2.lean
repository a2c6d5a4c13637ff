/- The magnitude of the vertex of a parabola through three points: what the reference returns. -/
import Derived.Test.YtdneffnnpjgnbaaVertS
namespace Go.Proofs.Ytdneffnnpjgnbaa
open Go.RowKit

theorem rdW {w : World} {B : Nat} {e : TypeId} {v : Value} {f : Nat → Int} {n : Nat} (h : w.ownsRow B e 1 v n (celI.row (mapI f n))) : Rd celI w v (mapI f n) := rd_of_row (own_castW h (mapI_len f n).symm rfl)
set_option maxRecDepth 100000 in
set_option maxHeartbeats 16000000 in
theorem sVertexMag_c (aT aM bT bM cT cM : Int) (w : World) :
    Calls Try.prog 19 #[.agg #[.int .i64 aT, .int .i64 aM], .agg #[.int .i64 bT, .int .i64 bM], .agg #[.int .i64 cT, .int .i64 cM]] w (Ret (.tuple #[.int .i64 (vertI aT aM bT bM cT cM).1, .int .i64 (vertI aT aM bT bM cT cM).2]) w) := by
  refine hide_ret fun v H => ?_
  have HP := Lib.hid (fun w => l12Code_c aT aM bT bM cT cM w)
  unfold codeV at HP
  unfold vertI at H
  by_cases h1 : curveB [(aT, aM), (bT, bM), (cT, cM)] = true
  rotate_left
  · have h1' : curveB [(aT, aM), (bT, bM), (cT, cM)] = false := by simpa using h1
    rw [h1'] at H HP
    simp only [if_true] at H HP
    clear h1 h1'
    go_enter Try.func19, Try.ntmps19
    go_wp2_with (first | (go_at_call 33; refine Calls.mono (HP.out _) ?_; rintro ee ww ⟨rfl, _, rfl⟩))
    go_ret2
    exact Ret.mk H.out (by (repeat (first | with_reducible exact Bel.refl _ | with_reducible assumption | with_reducible apply Bel.ext | with_reducible apply Bel.alloc | with_reducible apply Bel.drew | ((with_reducible refine Bel.set ?_ ?_ _); rotate_left; (focus (first | omega | (simp; done) | (simp [go_sem]; done) | (dsimp only; omega)))))) : Bel _ _)
  rw [h1] at H HP
  simp only [Bool.true_eq_false, if_false] at H HP
  obtain ⟨t0, t1, t2, t3, m0, m1, m2, m3, m4, m5⟩ := curve3 h1
  by_cases h2 : 100000 < cT - aT
  · rw [if_pos h2] at H HP
    clear h1
    go_enter Try.func19, Try.ntmps19
    go_wp2_with (first | (go_at_call 33; refine Calls.mono (HP.out _) ?_; rintro ee ww ⟨rfl, _, rfl⟩))
    go_ret2
    exact Ret.mk H.out (by (repeat (first | with_reducible exact Bel.refl _ | with_reducible assumption | with_reducible apply Bel.ext | with_reducible apply Bel.alloc | with_reducible apply Bel.drew | ((with_reducible refine Bel.set ?_ ?_ _); rotate_left; (focus (first | omega | (simp; done) | (simp [go_sem]; done) | (dsimp only; omega)))))) : Bel _ _)
  rw [if_neg h2] at H HP
  have hPB := curve3_PB h1 h2
  have HVX := Lib.hid (fun w => l12Vertex_c aT aM bT bM cT cM _ _ _ _ rfl rfl rfl rfl hPB (by omega) w)
  have HPR := Lib.hid hPB.prods
  unfold bendP at H
  obtain ⟨n, hn⟩ : ∃ k, bT - aT = k := ⟨_, rfl⟩
  obtain ⟨r, hr⟩ : ∃ k, cT - aT = k := ⟨_, rfl⟩
  obtain ⟨u, hu⟩ : ∃ k, bM - aM = k := ⟨_, rfl⟩
  obtain ⟨m, hm⟩ : ∃ k, cM - aM = k := ⟨_, rfl⟩
  rw [hn, hr, hu, hm] at H HVX HPR hPB
  have b0 : -5000000000 ≤ bendI n r u m ∧ bendI n r u m ≤ 5000000000 := by have := HPR.out; unfold bendI; omega
  have q0 : -500000000000000 ≤ tiltI n r u m ∧ tiltI n r u m ≤ 500000000000000 := by have := HPR.out; unfold tiltI; omega
  by_cases h3 : bendI n r u m = 0
  · rw [if_pos h3] at H
    rw [h3] at HVX
    clear h1 h3 hPB HPR b0 q0
    generalize tiltI n r u m = T at *
    go_enter Try.func19, Try.ntmps19
    go_wp2_with (first | (go_at_call 33; refine Calls.mono (HP.out _) ?_; rintro ee ww ⟨rfl, _, rfl⟩) | (go_at_call 34; refine Calls.mono (HVX.out _) ?_; rintro ee ww ⟨rfl, _, rfl⟩))
    go_ret2
    exact Ret.mk H.out (by (repeat (first | with_reducible exact Bel.refl _ | with_reducible assumption | with_reducible apply Bel.ext | with_reducible apply Bel.alloc | with_reducible apply Bel.drew | ((with_reducible refine Bel.set ?_ ?_ _); rotate_left; (focus (first | omega | (simp; done) | (simp [go_sem]; done) | (dsimp only; omega)))))) : Bel _ _)
  rw [if_neg h3] at H
  have hW := unit_pos hPB h3
  have hWe : 4 * absI (bendI n r u m) * n * (r * (r - n)) = unitI n r u m := by unfold unitI wholeI; grind
  have hn1 := hPB.n1
  have hnr := hPB.nr
  have hr1 := hPB.r1
  unfold sumI at H
  generalize unitI n r u m = W at *
  have habs : absI (-tiltI n r u m) = absI (tiltI n r u m) := by unfold absI; split <;> split <;> omega
  have HA1 := Lib.hid (fun w => l02Size_c (-tiltI n r u m) (by omega) w)
  rw [habs] at HA1
  have HA2 := Lib.hid (fun w => l02Size_c (bendI n r u m) (by omega) w)
  have hA1 : 0 ≤ absI (tiltI n r u m) ∧ absI (tiltI n r u m) ≤ 500000000000000 := by unfold absI; split <;> omega
  have hA2 : 0 ≤ absI (bendI n r u m) ∧ absI (bendI n r u m) ≤ 5000000000 := by unfold absI; split <;> omega
  clear hPB HPR h1 habs
  generalize absI (tiltI n r u m) = A at *
  generalize absI (bendI n r u m) = D at *
  generalize tiltI n r u m = T at *
  generalize bendI n r u m = B at *
  have hS0 : 0 ≤ 2 * (A * A) := by have := Int.mul_nonneg hA1.1 hA1.1; omega
  have hSe : A * A * 2 = 2 * (A * A) := Int.mul_comm _ _
  generalize 2 * (A * A) = S at *
  have HW1 := Lib.hid (fun w => l12Wide_c A (by omega) (by omega) w)
  have HW2 := Lib.hid (fun w => l12Wide_c 2 (by omega) (by omega) w)
  have HW3 := Lib.hid (fun w => l12Wide_c (4 * D) (by omega) (by omega) w)
  have HW4 := Lib.hid (fun w => l12Wide_c n (by omega) (by omega) w)
  have HW5 := Lib.hid (fun w => l12Wide_c r (by omega) (by omega) w)
  have HW6 := Lib.hid (fun w => l12Wide_c (r - n) (by omega) (by omega) w)
  have hK1 := topJ_pos hW hS0
  have hK2 := topJ_neg hW (show -S ≤ 0 by omega)
  have HC1 : Hid (∀ (u v : Value) (f g : Nat → Int) (n1 m1 : Nat) (x : World), Rd celI x u (mapI f n1) → Rd celI x v (mapI g m1) → WFd f n1 (A * A * 2) → WFd g m1 (4 * D * n * (r * (r - n))) → n1 ≤ 100 → m1 ≤ 100 → Calls Try.prog 38 #[u, v, .bool true] x (Ret (.int .i64 (minI (topJ S W) 50000)) x)) :=
    Lib.hid (fun u v f g n1 m1 x a1 a2 a3 a4 a5 a6 => l12Count_c u v f g n1 m1 S W (topJ S W) true x a1 a2 (hSe ▸ a3) (hWe ▸ a4) a5 a6 hK1 (fun k _ => by rw [if_pos rfl, Int.mul_comm W]; exact count_strict hW k))
  have HC2 : Hid (∀ (u v : Value) (f g : Nat → Int) (n1 m1 : Nat) (x : World), Rd celI x u (mapI f n1) → Rd celI x v (mapI g m1) → WFd f n1 (A * A * 2) → WFd g m1 (4 * D * n * (r * (r - n))) → n1 ≤ 100 → m1 ≤ 100 → Calls Try.prog 38 #[u, v, .bool false] x (Ret (.int .i64 (minI (-topJ (-S) W) 50000)) x)) :=
    Lib.hid (fun u v f g n1 m1 x a1 a2 a3 a4 a5 a6 => l12Count_c u v f g n1 m1 S W (-topJ (-S) W) false x a1 a2 (hSe ▸ a3) (hWe ▸ a4) a5 a6 (by omega) (fun k _ => by rw [if_neg (by simp), Int.mul_comm W]; exact count_weak hW k))
  clear hSe hWe hS0
  have hne : (B == 0) = false := by simpa using h3
  have hz0 : bT - aT = n := hn
  have hz1 : cT - aT = r := hr
  by_cases hB : B < 0
  · rw [if_pos hB] at H
    generalize topJ S W = J at *
    clear HC2 hK2 hn hr hu hm
    have h9 : magB (aM + minI J 50000) = magB (aM + J) ∧ (magB (aM + J) = true → aM + minI J 50000 = aM + J) := by
      by_cases hJ : J < 50000
      · rw [show minI J 50000 = J by unfold minI; rw [if_pos hJ]]; exact ⟨rfl, fun _ => rfl⟩
      · rw [show minI J 50000 = 50000 by unfold minI; rw [if_neg hJ]]
        have e1 : magB (aM + J) = false := by unfold magB; rw [inB_false]; omega
        have e2 : magB (aM + 50000) = false := by unfold magB; rw [inB_false]; omega
        exact ⟨by rw [e1, e2], fun h => by rw [e1] at h; cases h⟩
    have hx : -100000 ≤ aM + minI J 50000 ∧ aM + minI J 50000 ≤ 100000 := by unfold minI; split <;> omega
    have hmn : -50000 ≤ minI J 50000 ∧ minI J 50000 ≤ 50000 := by unfold minI; split <;> omega
    generalize minI J 50000 = k at *
    have HM := Lib.hid (fun w => l02Mag_c (aM + k) w)
    have H2 : Hid (v = .tuple #[.int .i64 (if magB (aM + k) = true then aM + k else 0), .int .i64 (if magB (aM + k) = true then 0 else 5)]) := Lib.hid (H.out.symm.trans (by
      rw [h9.1]
      cases e : magB (aM + J) with
      | true => rw [h9.2 e]; simp
      | false => simp))
    clear h9 H hK1
    have eN : IntKind.i64.wrap (aM + k) = aM + k := IntWalk.i64_in _ ⟨by omega, by omega⟩
    have hnB : ¬ 0 < B := by omega
    go_enter Try.func19, Try.ntmps19
    go_wp2_with (first | (go_at_call 35; refine args_g1 (.int .i64 (A)) (by with_reducible rfl) ?_; refine Calls.mono (HW1.out _) ?_; rintro ee ww ⟨f_, n_, v_, g_, rfl, rfl, ho_, hw_, hl_⟩) | (go_at_call 35; refine args_g1 (.int .i64 (2)) (by with_reducible rfl) ?_; refine Calls.mono (HW2.out _) ?_; rintro ee ww ⟨f_, n_, v_, g_, rfl, rfl, ho_, hw_, hl_⟩) | (go_at_call 35; refine args_g1 (.int .i64 (4 * D)) (by with_reducible rfl) ?_; refine Calls.mono (HW3.out _) ?_; rintro ee ww ⟨f_, n_, v_, g_, rfl, rfl, ho_, hw_, hl_⟩) | (go_at_call 35; refine args_g1 (.int .i64 (n)) (by with_reducible rfl) ?_; refine Calls.mono (HW4.out _) ?_; rintro ee ww ⟨f_, n_, v_, g_, rfl, rfl, ho_, hw_, hl_⟩) | (go_at_call 35; refine args_g1 (.int .i64 (r)) (by with_reducible rfl) ?_; refine Calls.mono (HW5.out _) ?_; rintro ee ww ⟨f_, n_, v_, g_, rfl, rfl, ho_, hw_, hl_⟩) | (go_at_call 35; refine args_g1 (.int .i64 (r - n)) (by with_reducible rfl) ?_; refine Calls.mono (HW6.out _) ?_; rintro ee ww ⟨f_, n_, v_, g_, rfl, rfl, ho_, hw_, hl_⟩) | (go_at_call 37; apply Calls.mono; apply l12Times_c; (focus (apply Rd.bel; (focus (apply rdW; assumption)); (focus (repeat (first | with_reducible exact Bel.refl _ | with_reducible assumption | apply Bel.ext | apply Bel.alloc | apply Bel.drew | exact Bel.refl _))))); (focus (apply Rd.bel; (focus (apply rdW; assumption)); (focus (repeat (first | with_reducible exact Bel.refl _ | with_reducible assumption | apply Bel.ext | apply Bel.alloc | apply Bel.drew | exact Bel.refl _))))); (focus (refine Hid.out ?_; assumption)); (focus (refine Hid.out ?_; assumption)); (focus omega); (focus omega); rintro ee ww ⟨f_, n_, v_, g_, rfl, rfl, ho_, hw_, hl_⟩) | (go_at_call 33; refine Calls.mono (HP.out _) ?_; rintro ee ww ⟨rfl, _, rfl⟩) | (go_at_call 34; refine Calls.mono (HVX.out _) ?_; rintro ee ww ⟨rfl, _, rfl⟩) | (go_at_call 36; refine args_g1 (.int .i64 (-T)) (by with_reducible rfl) ?_; refine Calls.mono (HA1.out _) ?_; rintro ee ww ⟨rfl, rfl⟩) | (go_at_call 36; refine args_g1 (.int .i64 B) (by with_reducible rfl) ?_; refine Calls.mono (HA2.out _) ?_; rintro ee ww ⟨rfl, rfl⟩))
    go_region_held3 (fun q_ => q_.cell? ⟨w.heap.size, 1, none⟩ = some (.int .i64 aM)) (simp [go_sem, *]) (first | (go_at_call 38; apply Calls.mono; apply HC1.out; (focus (apply Rd.bel; (focus (apply rdW; assumption)); (focus (repeat (first | with_reducible exact Bel.refl _ | with_reducible assumption | apply Bel.ext | apply Bel.alloc | apply Bel.drew | exact Bel.refl _))))); (focus (apply Rd.bel; (focus (apply rdW; assumption)); (focus (repeat (first | with_reducible exact Bel.refl _ | with_reducible assumption | apply Bel.ext | apply Bel.alloc | apply Bel.drew | exact Bel.refl _))))); (focus (refine Hid.out ?_; assumption)); (focus (refine Hid.out ?_; assumption)); (focus omega); (focus omega); rintro ee ww ⟨rfl, _, rfl⟩))
    cases hm : magB (aM + k) <;> rw [hm] at H2 HM <;> simp only [Bool.not_true, Bool.not_false, Bool.true_or, Bool.or_true, Bool.false_or, Bool.or_false, Bool.true_and, Bool.and_true, Bool.false_and, Bool.and_false, if_true, if_false, Bool.false_eq_true] at H2
    all_goals
      go_wp2_with (first | (go_at_call 39; refine Calls.mono (HM.out _) ?_; rintro ee ww ⟨rfl, rfl⟩))
      go_ret2
      exact Ret.mk H2.out.symm (by (repeat (first | with_reducible exact Bel.refl _ | with_reducible assumption | with_reducible apply Bel.ext | with_reducible apply Bel.alloc | with_reducible apply Bel.drew | ((with_reducible refine Bel.set ?_ ?_ _); rotate_left; (focus (first | omega | (simp; done) | (simp [go_sem]; done) | (dsimp only; omega)))))) : Bel _ _)
  · rw [if_neg hB] at H
    generalize topJ (-S) W = J at *
    generalize topJ S W = J0 at *
    clear hn hr hu hm
    have h9 : magB (aM - minI (-J) 50000) = magB (aM + J) ∧ (magB (aM + J) = true → aM - minI (-J) 50000 = aM + J) := by
      by_cases hJ : -J < 50000
      · rw [show minI (-J) 50000 = -J by unfold minI; rw [if_pos hJ], show aM - -J = aM + J by omega]; exact ⟨rfl, fun _ => rfl⟩
      · rw [show minI (-J) 50000 = 50000 by unfold minI; rw [if_neg hJ]]
        have e1 : magB (aM + J) = false := by unfold magB; rw [inB_false]; omega
        have e2 : magB (aM - 50000) = false := by unfold magB; rw [inB_false]; omega
        exact ⟨by rw [e1, e2], fun h => by rw [e1] at h; cases h⟩
    have hmn : 0 ≤ minI (-J) 50000 ∧ minI (-J) 50000 ≤ 50000 := by unfold minI; split <;> omega
    have hmn0 : 0 ≤ minI J0 50000 ∧ minI J0 50000 ≤ 50000 := by unfold minI; split <;> omega
    generalize minI (-J) 50000 = k at *
    generalize minI J0 50000 = k0 at *
    have HM := Lib.hid (fun w => l02Mag_c (aM - k) w)
    have H2 : Hid (v = .tuple #[.int .i64 (if magB (aM - k) = true then aM - k else 0), .int .i64 (if magB (aM - k) = true then 0 else 5)]) := Lib.hid (H.out.symm.trans (by
      rw [h9.1]
      cases e : magB (aM + J) with
      | true => rw [h9.2 e]; simp
      | false => simp))
    clear h9 H hK1 hK2
    have eN0 : IntKind.i64.wrap (aM + k0) = aM + k0 := IntWalk.i64_in _ ⟨by omega, by omega⟩
    have eN : IntKind.i64.wrap (aM - k) = aM - k := IntWalk.i64_in _ ⟨by omega, by omega⟩
    have hnB : 0 < B := by omega
    go_enter Try.func19, Try.ntmps19
    go_wp2_with (first | (go_at_call 35; refine args_g1 (.int .i64 (A)) (by with_reducible rfl) ?_; refine Calls.mono (HW1.out _) ?_; rintro ee ww ⟨f_, n_, v_, g_, rfl, rfl, ho_, hw_, hl_⟩) | (go_at_call 35; refine args_g1 (.int .i64 (2)) (by with_reducible rfl) ?_; refine Calls.mono (HW2.out _) ?_; rintro ee ww ⟨f_, n_, v_, g_, rfl, rfl, ho_, hw_, hl_⟩) | (go_at_call 35; refine args_g1 (.int .i64 (4 * D)) (by with_reducible rfl) ?_; refine Calls.mono (HW3.out _) ?_; rintro ee ww ⟨f_, n_, v_, g_, rfl, rfl, ho_, hw_, hl_⟩) | (go_at_call 35; refine args_g1 (.int .i64 (n)) (by with_reducible rfl) ?_; refine Calls.mono (HW4.out _) ?_; rintro ee ww ⟨f_, n_, v_, g_, rfl, rfl, ho_, hw_, hl_⟩) | (go_at_call 35; refine args_g1 (.int .i64 (r)) (by with_reducible rfl) ?_; refine Calls.mono (HW5.out _) ?_; rintro ee ww ⟨f_, n_, v_, g_, rfl, rfl, ho_, hw_, hl_⟩) | (go_at_call 35; refine args_g1 (.int .i64 (r - n)) (by with_reducible rfl) ?_; refine Calls.mono (HW6.out _) ?_; rintro ee ww ⟨f_, n_, v_, g_, rfl, rfl, ho_, hw_, hl_⟩) | (go_at_call 37; apply Calls.mono; apply l12Times_c; (focus (apply Rd.bel; (focus (apply rdW; assumption)); (focus (repeat (first | with_reducible exact Bel.refl _ | with_reducible assumption | apply Bel.ext | apply Bel.alloc | apply Bel.drew | exact Bel.refl _))))); (focus (apply Rd.bel; (focus (apply rdW; assumption)); (focus (repeat (first | with_reducible exact Bel.refl _ | with_reducible assumption | apply Bel.ext | apply Bel.alloc | apply Bel.drew | exact Bel.refl _))))); (focus (refine Hid.out ?_; assumption)); (focus (refine Hid.out ?_; assumption)); (focus omega); (focus omega); rintro ee ww ⟨f_, n_, v_, g_, rfl, rfl, ho_, hw_, hl_⟩) | (go_at_call 33; refine Calls.mono (HP.out _) ?_; rintro ee ww ⟨rfl, _, rfl⟩) | (go_at_call 34; refine Calls.mono (HVX.out _) ?_; rintro ee ww ⟨rfl, _, rfl⟩) | (go_at_call 36; refine args_g1 (.int .i64 (-T)) (by with_reducible rfl) ?_; refine Calls.mono (HA1.out _) ?_; rintro ee ww ⟨rfl, rfl⟩) | (go_at_call 36; refine args_g1 (.int .i64 B) (by with_reducible rfl) ?_; refine Calls.mono (HA2.out _) ?_; rintro ee ww ⟨rfl, rfl⟩))
    go_region_held3 (fun q_ => q_.cell? ⟨w.heap.size, 1, none⟩ = some (.int .i64 aM)) (simp [go_sem, *]) (first | (go_at_call 38; apply Calls.mono; apply HC1.out; (focus (apply Rd.bel; (focus (apply rdW; assumption)); (focus (repeat (first | with_reducible exact Bel.refl _ | with_reducible assumption | apply Bel.ext | apply Bel.alloc | apply Bel.drew | exact Bel.refl _))))); (focus (apply Rd.bel; (focus (apply rdW; assumption)); (focus (repeat (first | with_reducible exact Bel.refl _ | with_reducible assumption | apply Bel.ext | apply Bel.alloc | apply Bel.drew | exact Bel.refl _))))); (focus (refine Hid.out ?_; assumption)); (focus (refine Hid.out ?_; assumption)); (focus omega); (focus omega); rintro ee ww ⟨rfl, _, rfl⟩))
    go_wp2_with fail
    go_region_held3 (fun q_ => q_.cell? ⟨w.heap.size, 1, none⟩ = some (.int .i64 aM)) (simp [go_sem, *]) (first | (go_at_call 38; apply Calls.mono; apply HC2.out; (focus (apply Rd.bel; (focus (apply rdW; assumption)); (focus (repeat (first | with_reducible exact Bel.refl _ | with_reducible assumption | apply Bel.ext | apply Bel.alloc | apply Bel.drew | exact Bel.refl _))))); (focus (apply Rd.bel; (focus (apply rdW; assumption)); (focus (repeat (first | with_reducible exact Bel.refl _ | with_reducible assumption | apply Bel.ext | apply Bel.alloc | apply Bel.drew | exact Bel.refl _))))); (focus (refine Hid.out ?_; assumption)); (focus (refine Hid.out ?_; assumption)); (focus omega); (focus omega); rintro ee ww ⟨rfl, _, rfl⟩))
    cases hm : magB (aM - k) <;> rw [hm] at H2 HM <;> simp only [Bool.not_true, Bool.not_false, Bool.true_or, Bool.or_true, Bool.false_or, Bool.or_false, Bool.true_and, Bool.and_true, Bool.false_and, Bool.and_false, if_true, if_false, Bool.false_eq_true] at H2
    all_goals
      go_wp2_with (first | (go_at_call 39; refine Calls.mono (HM.out _) ?_; rintro ee ww ⟨rfl, rfl⟩))
      go_ret2
      exact Ret.mk H2.out.symm (by (repeat (first | with_reducible exact Bel.refl _ | with_reducible assumption | with_reducible apply Bel.ext | with_reducible apply Bel.alloc | with_reducible apply Bel.drew | ((with_reducible refine Bel.set ?_ ?_ _); rotate_left; (focus (first | omega | (simp; done) | (simp [go_sem]; done) | (dsimp only; omega)))))) : Bel _ _)
end Go.Proofs.Ytdneffnnpjgnbaa
