/- The table of the greatest worths: the reference. -/
import Derived.Test.YthahkoclkjfkdaaTab2
import Derived.Test.YthahkoclkjfkdaaWorth
namespace Go.Proofs.Ythahkoclkjfkdaa
open Go.RowKit

theorem doneRow_snoc (s : Nat) (ws nx : List Int) (t : Nat) : doneRow s ws nx (t + 1) = doneRow s ws nx t ++ [bestTo ws nx t s] := by
  unfold doneRow; rw [List.range_succ, List.map_append]; rfl
set_option maxRecDepth 100000 in
set_option maxHeartbeats 4000000 in
theorem l17Table_c (u : Value) (xss : List (List Int)) (hw : worthsB xss = true) (w : World) (hu : RdN w u xss) :
    Calls Try.prog 46 #[u] w (RetN (tabL xss) w) := by
  generalize hR : RetN (tabL xss) w = R
  have HR := Lib.hid hR
  clear hR
  obtain ⟨f1, f2, f3, f4, f5⟩ := worthsB_fine hw
  have hbd := tabAt_bd hw
  obtain ⟨a, n, c, rfl, hs⟩ := hu
  have hcap := hs.le; have hmax := hs.cap
  unfold maxLen at hmax
  have HL := Lib.hid hs.len
  rw [← HL.out] at f1 f2
  obtain ⟨b, off, rfl, hb⟩ := hs.base (k := 0) (by omega)
  obtain ⟨a0, n0, c0, xs0, hx0, hd0, hs0⟩ := hs.row (k := 0) (by omega)
  rw [Nat.add_zero] at hd0
  have hl0 := hs0.len
  have hci0 := hs0.le; have hcm0 := hs0.cap
  unfold maxLen at hcm0
  have HW := Lib.hid (show wid xss = n0 by rw [wid_of hx0.out, hl0])
  rw [HW.out] at f3 f4 f5
  clear hl0
  have HP := Lib.hid (pow_le8 f4)
  have HF := Lib.hid f5
  have HB := Lib.hid hbd
  clear f5 hbd hw
  have wn0 : IntKind.i64.wrap (n0 : Int) = (n0 : Int) := IntWalk.i64_in _ (by omega)
  have s1 := pow64 (k := n0) (by omega)
  have z0 : (0 : Int) < n := by omega
  have hpos : 0 < 2 ^ n0 := Nat.two_pow_pos _
  have hp8 := HP.out
  have HG := Lib.hid (show (2 : Nat) ^ n0 = 2 ^ wid xss by rw [HW.out])
  generalize hS : 2 ^ n0 = S at *
  have HS := Lib.hid hS
  clear hS
  have hM0 := mem_nil w
  go_enter Try.func46, Try.ntmps46
  go_wp2_with (first | (at_make; refine wpList_make_mem rfl _ _ 22 27 24 rfl Try.underlying22 (.slice none 0 0) rfl (by kernel_rfl) (n + 1) rfl rfl (by omega) (by omega) w [] hM0 ?_; intro g1 hM1) | (at_make; refine wpList_make_mem rfl _ _ 27 2 8 rfl Try.underlying27 (.int .i64 0) rfl (by kernel_rfl) S rfl rfl (by omega) (by omega) w _ hM1 ?_; intro g2 hM2; obtain ⟨k1, k2, k3, k4, k5⟩ := mem_far hM2 0 (by rfl) (by omega); have k6 := k1 n (.slice none 0 0) (by simp); have k7 := k2 n; clear k1 k2))
  have HT := Lib.hid (TabR.first HL.out HG.out hM2 (by simp))
  clear hM0 hM1 hM2 s1
  go_loopw [7, 8, 9, 10, 11] (fun i _ _ _ _ wr => ∃ (p : Nat) (q : Int), p ≤ n ∧ q = (p : Int) - 1 ∧ i = .int .i64 q ∧ Hid (TabR 27 2 w wr xss p)) (fun i _ _ _ _ _ => (intOf i + 1).toNat)
  case atStart => exact ⟨n, (n : Int) - 1, Nat.le_refl _, rfl, by go_num, HT⟩
  case round =>
    obtain ⟨p, q, hp, hq, rfl, hT⟩ := hrel
    clear HT
    by_cases hlt : 0 < p
    · obtain ⟨p, rfl⟩ : ∃ q, p = q + 1 := ⟨p - 1, by omega⟩
      obtain ⟨g, hg⟩ := ext_ex hT.out.below
      subst hg
      generalize ext w g = X at *
      obtain ⟨L, oc, hM, h0, hoc, hrest⟩ := hT.out
      have hwX := hM.bel
      have hbX := Nat.lt_of_lt_of_le hb hwX.size
      obtain rfl : q = (p : Int) := by omega
      clear hq
      obtain ⟨q1, b1, c1, k1, k2, k3⟩ := hrest (p + 1) (Nat.le_refl _) (by rw [← HL.out]; omega)
      have hrd := own_rd (hM.own q1 _ k2)
      have hln : (tabAt xss (p + 1)).length = S := by rw [tabAt_len, HG.out]
      have ho0 := hM.own 0 _ h0
      have F2 := ho0.cells rfl (p + 1) _ k3
      rw [addr_add, Nat.zero_add, hln] at F2
      have hXl := (ho0.lt _ rfl).2
      obtain ⟨u9, hu9⟩ : ∃ u, oc[p]? = some u := ⟨_, List.getElem?_eq_getElem (by rw [hoc, ← HL.out]; omega)⟩
      have F1 := ho0.cells rfl p _ hu9
      rw [addr_add, Nat.zero_add] at F1
      have F3 := frozen_own hM 0 h0 p
      have HM := Lib.hid hM
      have H0 := Lib.hid h0
      have HOC := Lib.hid hoc
      have HR9 := Lib.hid hrest
      have hsX := hs.bel hwX
      obtain ⟨ai, ni, ci, ws, hx, hc0, hsi⟩ := hsX.row (k := p) (by omega)
      have hci := hsi.le; have hcm := hsi.cap
      unfold maxLen at hcm
      obtain ⟨e1, e2⟩ := HF.out ws (List.mem_of_getElem? hx.out)
      have hni : ni = n0 := by rw [hsi.len, e1]
      subst hni
      have E2 := Lib.hid e2
      have E1 := Lib.hid e1
      have HXP := Lib.hid (tabAt_step hx.out)
      have HBN := Lib.hid (HB.out (p + 1))
      have HN := Lib.hid hln
      obtain ⟨aN, nN, cN, hvN, hsN⟩ := hrd.sl
      simp only [Value.slice.injEq] at hvN
      obtain ⟨rfl, rfl, rfl⟩ := hvN
      have hN2 := hsN.le; have hN3 := hsN.cap
      unfold maxLen at hN3
      rw [hln] at hsN hN2
      obtain ⟨_, _, hab, hbl⟩ := hsN.base hpos
      cases hab
      clear hT hrd ho0 hln hrest hu9 e2 e1 k1 k2 k3 hM h0 hoc hsX
      generalize hnx : tabAt xss (p + 1) = nx at *
      have HNX := Lib.hid hnx
      clear hnx
      have z1 : (0 : Int) ≤ (p : Int) + 1 := by omega
      have z2 : (p : Int) + 1 < (n : Int) + 1 := by omega
      have z3 : (p : Int) < (n : Int) := by omega
      have z4 : ((p : Int) + 1).toNat = p + 1 := by omega
      have z5 : (0 : Int) ≤ (p : Int) := by omega
      have z6 : (p : Int) < (n : Int) + 1 := by omega
      have w5 : IntKind.i64.wrap ((p : Int) + 1) = (p : Int) + 1 := IntWalk.i64_in _ (by omega)
      go_wp2
      go_loopw [8, 9, 10, 11] (fun v s _ _ wr => ∃ t : Nat, t ≤ S ∧ s = .int .i64 t ∧ Bel X wr ∧ Hid (wr.ownsRow X.heap.size 2 1 v t (celI.row (doneRow ni ws nx t)))) (fun _ s _ _ _ => S - (intOf s).toNat)
      case atStart => exact ⟨0, Nat.zero_le _, rfl, by (repeat (first | with_reducible exact Bel.refl _ | with_reducible assumption | apply Bel.ext | apply Bel.alloc | apply Bel.drew | exact Bel.refl _ | refine Bel.set ?_ (by first | (simp; done) | (simp [go_sem]; done) | omega) _)), Lib.hid (by refine own_empty _ _ _ _ ?_; exact bel_size (by (repeat (first | with_reducible exact Bel.refl _ | with_reducible assumption | apply Bel.ext | apply Bel.alloc | apply Bel.drew | exact Bel.refl _ | refine Bel.set ?_ (by first | (simp; done) | (simp [go_sem]; done) | omega) _))))⟩
      case round =>
        obtain ⟨t, ht, rfl, hbel, hown⟩ := hrel
        obtain ⟨g4, hg4⟩ := ext_ex hbel
        subst hg4
        by_cases hlt2 : t < S
        · obtain ⟨b0, hb0⟩ : ∃ b0, nx[t]? = some b0 := ⟨_, List.getElem?_eq_getElem (by rw [HN.out]; exact hlt2)⟩
          obtain ⟨y0, hy0, hcy0⟩ := hsN.at1 hlt2
          rw [Nat.zero_add] at hcy0
          have HY0 := Lib.hid (show y0 = bestTo ws nx t 0 by unfold bestTo; rw [getD_of hy0.out])
          clear hb0
          have x3 : (0 : Int) ≤ (t : Int) := by omega
          have x4 : (t : Int) < (S : Int) := Int.ofNat_lt.2 hlt2
          go_wp2
          go_loopw [10, 11] (fun bv kv wr => ∃ k : Nat, k ≤ ni ∧ kv = .int .i64 k ∧ bv = .int .i64 (bestTo ws nx t k) ∧ Bel (ext X g4) wr) (fun _ kv _ => ni - (intOf kv).toNat)
          case atStart => exact ⟨0, Nat.zero_le _, rfl, by rw [HY0.out], Bel.refl _⟩
          case round =>
            obtain ⟨k, hk, rfl, rfl, hbel2⟩ := hrel
            obtain ⟨g5, hg5⟩ := ext_ex hbel2
            subst hg5
            by_cases hlt3 : k < ni
            · obtain ⟨bi, oi, rfl, hbi⟩ := hsi.base hlt3
              obtain ⟨y, hy, hcy⟩ := hsi.at1 hlt3
              obtain ⟨y1, y2⟩ := E2.out y (List.mem_of_getElem? hy.out)
              have hor : t ||| 2 ^ k < S := by rw [← HS.out]; exact or_lt (by rw [HS.out]; exact hlt2) hlt3
              obtain ⟨x, hx9, hcx⟩ := hsN.at1 hor
              rw [Nat.zero_add] at hcx
              obtain ⟨x1, x2⟩ := HBN.out x (List.mem_of_getElem? hx9.out)
              obtain ⟨m1, m2⟩ := bestTo_bd E2.out HBN.out (by omega) t k
              have x5 : (0 : Int) ≤ (k : Int) := by omega
              have x6 : (k : Int) < (ni : Int) := Int.ofNat_lt.2 hlt3
              have wk : IntKind.i64.wrap (k : Int) = (k : Int) := IntWalk.i64_in _ (by omega)
              have w4 : IntKind.i64.wrap (y + x) = y + x := IntWalk.i64_in _ (by omega)
              have hbt := bit_test (t := t) (k := k) (Nat.lt_of_lt_of_le hlt2 (Nat.le_trans hp8 (by decide)))
              rcases htb : t.testBit k with _ | _
              · rw [htb] at hbt
                have HBO := Lib.hid (bestTo_on (ws := ws) (nx := nx) htb hy.out hx9.out)
                clear htb
                have v5 : (0 : Int) ≤ ((t ||| 2 ^ k : Nat) : Int) := Int.natCast_nonneg _
                have v6 : ((t ||| 2 ^ k : Nat) : Int) < (S : Int) := Int.ofNat_lt.2 hor
                obtain ⟨bt, hbt2⟩ : ∃ bt, bt = bestTo ws nx t k := ⟨_, rfl⟩
                have HBT := Lib.hid hbt2
                rw [← hbt2] at m1 m2 ⊢
                clear hbt2
                have hpk : 2 ^ k < 256 := Nat.lt_of_lt_of_le (Nat.pow_lt_pow_right (a := 2) (by decide) hlt3) (by rw [HS.out]; exact hp8)
                have p1 := pow64 (k := k) (by omega)
                have p2 := bits_or_nat t (2 ^ k) (Nat.lt_of_lt_of_le hlt2 (Nat.le_trans hp8 (by decide))) (Nat.lt_trans hpk (by decide))
                obtain ⟨ix, hix⟩ : ∃ ix, ix = t ||| 2 ^ k := ⟨_, rfl⟩
                rw [← hix] at hcx v5 v6 p2
                have p3 : bits .or .i64 (t : Int) ((2 : Int) ^ k) = (ix : Int) := by rw [← p2]; simp
                clear hix hor hpk
                go_wp2_with fail
                refine region_ext (by kernel_rfl) (by kernel_rfl) ?_
                repeat (go_big_quiet_step (first | (go_at_call 54; exact Calls.in_same (l00Max_c _ _ _))))
                refine wpQuiet_nil ?_
                rintro _ ⟨_, rfl⟩
                clear p1 p2 p3
                go_wp2
                go_roundw
                case rel => exact ⟨k + 1, by omega, by go_num, by rw [HBO.out, ← HBT.out], by (repeat (first | with_reducible exact Bel.refl _ | with_reducible assumption | apply Bel.ext | apply Bel.alloc | apply Bel.drew | exact Bel.refl _ | refine Bel.set ?_ (by first | (simp; done) | (simp [go_sem]; done) | omega) _))⟩
                case measure => simp [intOf]; omega
              · rw [htb] at hbt
                have HBO := Lib.hid (bestTo_off (ws := ws) (nx := nx) htb)
                clear htb hor
                go_wp2
                go_roundw
                case rel => exact ⟨k + 1, by omega, by go_num, by rw [HBO.out], by (repeat (first | with_reducible exact Bel.refl _ | with_reducible assumption | apply Bel.ext | apply Bel.alloc | apply Bel.drew | exact Bel.refl _ | refine Bel.set ?_ (by first | (simp; done) | (simp [go_sem]; done) | omega) _))⟩
                case measure => simp [intOf]; omega
            · have hkn : bestTo ws nx t k = bestTo ws nx t ni := by rw [show k = ni from by omega]
              rw [hkn]
              clear hkn
              obtain ⟨bt, hbt2⟩ : ∃ bt, bt = bestTo ws nx t ni := ⟨_, rfl⟩
              have HBT := Lib.hid hbt2
              rw [← hbt2]
              clear hbt2
              have hl3 : ¬ (k : Int) < (ni : Int) := by omega
              go_wp2_with (first | (at_builtin; refine wpList_append_new rfl (.tmp 82) (.tmp 84) 27 2 1 8 rfl appIntT (by decide) X _ _ _ 1 [.int .i64 bt] rfl (by first | with_reducible rfl | (simp [go_sem]; done)) rfl (by intro u hu; simp at hu; first | (subst hu; rfl) | (rcases hu with rfl | rfl <;> rfl) | (rcases hu with rfl | rfl | rfl <;> rfl)) (own_bel hown.out ?_) ?_ (by omega) (by omega) ?_; (focus (repeat (first | with_reducible exact Bel.refl _ | with_reducible assumption | apply Bel.ext | apply Bel.alloc | apply Bel.drew | exact Bel.refl _))); (focus (repeat (first | with_reducible exact Bel.refl _ | with_reducible assumption | apply Bel.ext | apply Bel.alloc | apply Bel.drew | exact Bel.refl _))); intro v2 g2 hown2 hgr2))
              go_roundw
              case rel =>
                refine ⟨t + 1, by omega, by go_num, by (repeat (first | with_reducible exact Bel.refl _ | with_reducible assumption | apply Bel.ext | apply Bel.alloc | apply Bel.drew | exact Bel.refl _ | refine Bel.set ?_ (by first | (simp; done) | (simp [go_sem]; done) | omega) _)), Lib.hid ?_⟩
                rw [doneRow_snoc, ← HBT.out, Cel.row_append, Cel.row_one]; exact hown2
              case measure => simp [intOf]; omega
        · have htS : t = S := by omega
          have HX3 : Hid (celI.row (doneRow ni ws nx t) = celI.row (tabAt xss p)) := Lib.hid (by rw [HXP.out, HW.out, ← doneRow_all, HS.out, htS])
          have hO := hown.out
          rw [HX3.out, htS] at hO
          obtain ⟨b2, c2, hv2, -, -, -, -, -, -⟩ := own_far hO hpos
          subst hv2
          have HTM := Lib.hid (TabR.down (c := c2) (b := b2) (cur := tabAt xss p) (by have := mem_own_snoc HM.out (by (repeat (first | with_reducible exact Bel.refl _ | with_reducible assumption | apply Bel.ext | apply Bel.alloc | apply Bel.drew | exact Bel.refl _ | refine Bel.set ?_ (by first | (simp; done) | (simp [go_sem]; done) | omega) _)) : Bel X (ext X g4)) _ _ _ _ _ hO; rw [show (⟨.slice (some ⟨b2, 0, none⟩) S c2, 2, 1, S, celI.row (tabAt xss p)⟩ : Ent) = rowE 2 b2 c2 (tabAt xss p) by unfold rowE; rw [tabAt_len, HG.out]] at this; exact this) H0.out HOC.out HR9.out (by rw [← HL.out]; omega)).r
          rw [tabAt_len, ← HG.out] at HTM
          clear hO hown
          go_wp2
          go_roundw
          case rel => exact ⟨p, (p : Int) - 1, by omega, rfl, by go_num, HTM⟩
          case measure => simp [intOf]
    · obtain rfl : p = 0 := by omega
      obtain rfl : q = -1 := by omega
      clear hq
      obtain ⟨g, hg⟩ := ext_ex hT.out.below
      subst hg
      go_wp2
      rw [← HR.out]
      refine ⟨_, g, rfl, rfl, ?_⟩
      have := hT.out.rd
      rw [← HL.out] at this
      exact this
end Go.Proofs.Ythahkoclkjfkdaa
