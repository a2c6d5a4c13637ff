/- The table of the greatest worths: the program. -/
import Derived.Test.YthahkoclkjfkdaaTab2
import Derived.Test.YthahkoclkjfkdaaWorth
import Derived.RegionTactic
import Derived.BigRegion
namespace Go.Proofs.Ythahkoclkjfkdaa
open Go.RowKit

set_option maxRecDepth 100000 in
set_option maxHeartbeats 4000000 in
theorem table_c (u : Value) (xss : List (List Int)) (hw : worthsB xss = true) (w : World) (hu : RdN w u xss) :
    Calls Try.prog 47 #[u] w (RetN (tabL xss) w) := by
  generalize hR : RetN (tabL xss) w = R
  have HR := Lib.hid hR
  clear hR
  obtain ⟨f1, f2, f3, f4, f5⟩ := worthsB_fine hw
  have hbd := tabAt_bd hw
  obtain ⟨a, n, c, rfl, hs⟩ := hu
  have hcap := hs.le; have hmax := hs.cap
  unfold maxLen at hmax
  have HL := Lib.hid hs.len
  rw [← HL.out] at f1 f2
  obtain ⟨b, off, rfl, hb⟩ := hs.base (k := 0) (by omega)
  obtain ⟨a0, n0, c0, xs0, hx0, hd0, hs0⟩ := hs.row (k := 0) (by omega)
  rw [Nat.add_zero] at hd0
  have hl0 := hs0.len
  have hci0 := hs0.le; have hcm0 := hs0.cap
  unfold maxLen at hcm0
  have HW := Lib.hid (show wid xss = n0 by rw [wid_of hx0.out, hl0])
  rw [HW.out] at f3 f4 f5
  clear hl0
  have HP := Lib.hid (pow_le8 f4)
  have HF := Lib.hid f5
  have HB := Lib.hid hbd
  clear f5 hbd hw
  have s1 := pow64 (k := n0) (by omega)
  have z0 : (0 : Int) < n := by omega
  have hpos : 0 < 2 ^ n0 := Nat.two_pow_pos _
  have hp8 := HP.out
  have HG := Lib.hid (show (2 : Nat) ^ n0 = 2 ^ wid xss by rw [HW.out])
  generalize hS : 2 ^ n0 = S at *
  have HS := Lib.hid hS
  clear hS
  have hM0 := mem_nil w
  go_enter Try.func47, Try.ntmps47
  go_wp2_with (first | (at_make; refine wpList_make_mem rfl _ _ 22 27 24 rfl Try.underlying22 (.slice none 0 0) rfl (by kernel_rfl) (n + 1) rfl rfl (by omega) (by omega) w [] hM0 ?_; intro g1 hM1) | (at_make; refine wpList_make_mem rfl _ _ 27 2 8 rfl Try.underlying27 (.int .i64 0) rfl (by kernel_rfl) S rfl rfl (by omega) (by omega) w _ hM1 ?_; intro g2 hM2; obtain ⟨k1, k2, k3, k4, k5⟩ := mem_far hM2 0 (by rfl) (by omega); have k6 := k1 n (.slice none 0 0) (by simp); have k7 := k2 n; clear k1 k2))
  have HT := Lib.hid (TabR.first HL.out HG.out hM2 (by simp))
  clear hM0 hM1 hM2 s1
  go_loopw [5, 6, 7, 8, 41] (fun i _ _ _ _ wr => ∃ (p : Nat) (q : Int), p ≤ n ∧ q = (p : Int) - 1 ∧ i = .int .i64 q ∧ Hid (TabR 27 2 w wr xss p)) (fun i _ _ _ _ _ => (intOf i + 1).toNat)
  case atStart => exact ⟨n, (n : Int) - 1, Nat.le_refl _, rfl, by go_num, HT⟩
  case round =>
    obtain ⟨p, q, hp, hq, rfl, hT⟩ := hrel
    clear HT
    by_cases hlt : 0 < p
    · obtain ⟨p, rfl⟩ : ∃ q, p = q + 1 := ⟨p - 1, by omega⟩
      obtain ⟨L, oc, hM, h0, hoc, hrest⟩ := hT.out
      obtain ⟨g, rfl⟩ := ext_ex hM.bel
      obtain rfl : q = (p : Int) := by omega
      clear hq
      obtain ⟨q1, b1, c1, k1, k2, k3⟩ := hrest (p + 1) (Nat.le_refl _) (by rw [← HL.out]; omega)
      have hrd := own_rd (hM.own q1 _ k2)
      obtain ⟨o1, o2, o3, o4, o5⟩ := mem_far hM 0 h0 (by omega)
      have F2 := o1 _ _ k3
      have hln : (tabAt xss (p + 1)).length = S := by rw [tabAt_len, HG.out]
      have HN := Lib.hid hln
      have HBN := Lib.hid (HB.out (p + 1))
      have hcp := Lib.hid (fun x (hx : Bel (ext w g) x) => copyOf_c _ (tabAt xss (p + 1)) (by rw [HN.out]; omega) (by rw [HN.out]; omega) x (hrd.bel hx))
      rw [hln] at F2 hcp
      obtain ⟨ai, ni, ci, ws, hx, hc0, hsi⟩ := hs.row (k := p) (by omega)
      have hci := hsi.le; have hcm := hsi.cap
      unfold maxLen at hcm
      obtain ⟨e1, e2⟩ := HF.out ws (List.mem_of_getElem? hx.out)
      have hni : ni = n0 := by rw [hsi.len, e1]
      subst hni
      obtain ⟨u9, hu9⟩ : ∃ u, oc[p]? = some u := ⟨_, List.getElem?_eq_getElem (by rw [hoc, ← HL.out]; omega)⟩
      have HU9 := Lib.hid hu9
      have H0 := Lib.hid h0
      have HOC := Lib.hid hoc
      have HR9 := Lib.hid hrest
      have E2 := Lib.hid e2
      have E1 := Lib.hid e1
      have HXP := Lib.hid (tabAt_step hx.out)
      clear hT hrd o1 o2 hln hrest hu9 e2 e1 k1 k2 k3 h0 hoc
      have z1 : (0 : Int) ≤ (p : Int) + 1 := by omega
      have z2 : (p : Int) + 1 < (n : Int) + 1 := by omega
      have z3 : (p : Int) < (n : Int) := by omega
      have z4 : ((p : Int) + 1).toNat = p + 1 := by omega
      generalize hnx : tabAt xss (p + 1) = nx at *
      have HNX := Lib.hid hnx
      clear hnx
      go_wp2_with (first | (go_at_call 61; refine Calls.mono (mem_row hM ?_ (hcp.out _ ?_)) ?_; (focus (repeat (first | with_reducible exact Bel.refl _ | with_reducible assumption | apply Bel.ext | apply Bel.alloc | apply Bel.drew | exact Bel.refl _))); (focus (repeat (first | with_reducible exact Bel.refl _ | with_reducible assumption | apply Bel.ext | apply Bel.alloc | apply Bel.drew | exact Bel.refl _))); rintro ee ww ⟨v0, g3, rfl, rfl, hM2⟩; obtain ⟨b2, c2, rfl⟩ := mem_row_v hM2 L.length (by rw [List.getElem?_append_right (Nat.le_refl _), Nat.sub_self]; rfl) hpos; obtain ⟨o1, o2, o3, o4, o5⟩ := mem_far hM2 0 (by rw [List.getElem?_append_left (List.getElem?_eq_some_iff.1 H0.out).1]; exact H0.out) (by omega); have k6 := o1 p _ HU9.out; have k7 := o2 p; clear o1 o2))
      have hT : TabM 27 2 w ((ext w g3).setCell ⟨w.heap.size, p, none⟩ (.slice (some ⟨b2, 0, none⟩) S c2)) xss p nx := by
        have e : (⟨.slice (some ⟨b2, 0, none⟩) S c2, 2, 1, S, celI.row nx⟩ : Ent) = rowE 2 b2 c2 nx := by unfold rowE; rw [HN.out]
        rw [e] at hM2
        have := TabR.down hM2 H0.out HOC.out HR9.out (by rw [← HL.out]; omega)
        rw [HN.out] at this; exact this
      have HT := Lib.hid hT
      clear hT hM hM2 k6 k7 o3 o4 o5 H0 HOC HU9 HR9 hcp
      go_loopw [6, 7, 8, 41] (fun _ _ _ i wr => ∃ t : Nat, t ≤ S ∧ i = .int .i64 t ∧ Hid (TabM 27 2 w wr xss p (doneRow ni ws nx t ++ nx.drop t))) (fun _ _ _ i _ => S - (intOf i).toNat)
      case atStart => exact ⟨0, Nat.zero_le _, rfl, Lib.hid (by rw [doneRow_zero]; exact HT.out)⟩
      case round =>
        obtain ⟨t, ht, rfl, hT⟩ := hrel
        clear HT
        by_cases hlt2 : t < S
        · have htn : t < nx.length := by rw [HN.out]; exact hlt2
          have hT0 := hT.out
          rw [midRow_start (s := ni) (ws := ws) htn] at hT0
          have HT := Lib.hid hT0
          obtain ⟨g4, hg4⟩ := ext_ex hT0.below
          subst hg4
          clear hT hT0
          go_wp2
          go_loopw [7, 8, 49] (fun _ _ i wr => ∃ k : Nat, k ≤ ni ∧ i = .int .i64 k ∧ Hid (TabM 27 2 w wr xss p (midRow ni ws nx t k))) (fun _ _ i _ => ni - (intOf i).toNat)
          case atStart => exact ⟨0, Nat.zero_le _, rfl, HT⟩
          case round =>
            obtain ⟨k, hk, rfl, hT⟩ := hrel
            clear HT
            obtain ⟨g5, hg5⟩ := ext_ex hT.out.below
            subst hg5
            by_cases hlt3 : k < ni
            · have HML := Lib.hid (show (midRow ni ws nx t k).length = S by rw [midRow_len htn, HN.out])
              obtain ⟨bb, cc, bn, cn, F1, F2, F3, F4, F5, F6, F7, F8, F9, F10, F11⟩ := hT.out.facts (by rw [← HL.out]; omega) (by rw [HML.out]; exact hpos)
              rw [HNX.out] at F2 F4
              rw [HML.out] at F1
              rw [HN.out] at F2
              obtain ⟨bi, oi, rfl, hbi⟩ := hsi.base hlt3
              obtain ⟨y, hy, hcy⟩ := hsi.at1 hlt3
              obtain ⟨y1, y2⟩ := E2.out y (List.mem_of_getElem? hy.out)
              have hor : t ||| 2 ^ k < S := by rw [← HS.out]; exact or_lt (by rw [HS.out]; exact hlt2) hlt3
              obtain ⟨x, hx9⟩ : ∃ x, nx[t ||| 2 ^ k]? = some x := ⟨_, List.getElem?_eq_getElem (by rw [HN.out]; exact hor)⟩
              obtain ⟨x1, x2⟩ := HBN.out x (List.mem_of_getElem? hx9)
              have hmid := midRow_at ni ws nx t k
              have G3 := F3 _ _ hmid
              have G4 := F4 _ _ hx9
              have G5 := F5 t
              obtain ⟨m1, m2⟩ := bestTo_bd E2.out HBN.out (by omega) t k
              clear F3 F4 F5
              have HT := Lib.hid hT.out
              have HX9 := Lib.hid hx9
              have HF11 := Lib.hid F11
              have HMID := Lib.hid hmid
              clear hT hx9 F11 hmid
              have hbt := bit_test (t := t) (k := k) (Nat.lt_of_lt_of_le hlt2 (Nat.le_trans hp8 (by decide)))
              rcases htb : t.testBit k with _ | _
              · rw [htb] at hbt
                have HBO := Lib.hid (bestTo_on (ws := ws) (nx := nx) htb hy.out HX9.out)
                have w4 : IntKind.i64.wrap (y + x) = y + x := IntWalk.i64_in _ (by omega)
                have w5 : IntKind.i64.wrap ((p : Int) + 1) = (p : Int) + 1 := IntWalk.i64_in _ (by omega)
                have HTB := Lib.hid htb
                clear htb
                have v1 : (0 : Int) ≤ (p : Int) := by omega
                have v2 : (p : Int) < (n : Int) + 1 := by omega
                have v3 : (0 : Int) ≤ (t : Int) := by omega
                have v4 : (t : Int) < (S : Int) := Int.ofNat_lt.2 hlt2
                have v7 : (0 : Int) ≤ (k : Int) := by omega
                obtain ⟨bt, hbt2⟩ : ∃ bt, bt = bestTo ws nx t k := ⟨_, rfl⟩
                rw [← hbt2] at G3 m1 m2
                have HBT := Lib.hid hbt2
                clear hbt2
                have v5 : (0 : Int) ≤ ((t ||| 2 ^ k : Nat) : Int) := Int.natCast_nonneg _
                have v6 : ((t ||| 2 ^ k : Nat) : Int) < (S : Int) := Int.ofNat_lt.2 hor
                have hpk : 2 ^ k < 256 := Nat.lt_of_lt_of_le (Nat.pow_lt_pow_right (a := 2) (by decide) hlt3) (by rw [HS.out]; exact hp8)
                have p1 := pow64 (k := k) (by omega)
                have p2 := bits_or_nat t (2 ^ k) (Nat.lt_of_lt_of_le hlt2 (Nat.le_trans hp8 (by decide))) (Nat.lt_trans hpk (by decide))
                clear hpk
                have p2b : bits .or .i64 (t : Int) ((2 : Int) ^ k) = ((t ||| 2 ^ k : Nat) : Int) := by rw [← p2]; simp
                obtain ⟨ix, hix⟩ : ∃ ix, ix = t ||| 2 ^ k := ⟨_, rfl⟩
                rw [← hix] at G4 v5 v6 p2 p2b
                clear hix hor
                have Y1 : (ext w g5).cell? ⟨w.heap.size, p, none⟩ = some (.slice (some ⟨bb, 0, none⟩) S cc) := by rw [ext_cell_if, if_neg (Nat.lt_irrefl _)]; exact F1
                have Y2 : (ext w g5).cell? ⟨w.heap.size, p + 1, none⟩ = some (.slice (some ⟨bn, 0, none⟩) S cn) := by rw [ext_cell_if, if_neg (Nat.lt_irrefl _)]; exact F2
                have Y3 : (ext w g5).cell? ⟨bb, t, none⟩ = some (.int .i64 bt) := by rw [ext_cell_if, if_neg F6]; exact G3
                have Y4 : (ext w g5).cell? ⟨bn, ix, none⟩ = some (.int .i64 x) := by rw [ext_cell_if, if_neg F7]; exact G4
                have Y5 : (ext w g5).frozen? ⟨bb, t, none⟩ = false := by rw [ext_frozen_if, if_neg F6]; exact G5
                go_wp2_with fail
                clear F1 F2 G3 G4 G5
                generalize ext w g5 = Y at *
                go_region
                go_wp2
                go_roundw
                case rel =>
                  refine ⟨k + 1, by omega, by go_num, Lib.hid ?_⟩
                  have hm := TabM.bel (HF11.out Y t (if bt < y + x then y + x else bt) (Bel.refl _)) ((Bel.refl _).drew)
                  have e : (if bt < y + x then y + x else bt) = bestTo ws nx t (k + 1) := by rw [HBO.out, ← HBT.out]; unfold maxI; split <;> split <;> omega
                  rw [e, midRow_set] at hm
                  rw [e]; exact hm
                case measure => simp [intOf]; omega
              · rw [htb] at hbt
                have HBO := Lib.hid (bestTo_off (ws := ws) (nx := nx) htb)
                have HTB := Lib.hid htb
                clear htb
                go_wp2
                go_roundw
                case rel =>
                  refine ⟨k + 1, by omega, by go_num, Lib.hid ?_⟩
                  have := HT.out
                  unfold midRow at this ⊢
                  rw [HBO.out]; exact this
                case measure => simp [intOf]; omega
            · have HT2 : Hid (TabM 27 2 w (ext w g5) xss p (doneRow ni ws nx (t + 1) ++ nx.drop (t + 1))) := by
                have hT2 := hT.out
                rw [show k = ni from by omega, midRow_end] at hT2
                exact Lib.hid hT2
              clear hT
              go_wp2
              go_roundw
              case rel => exact ⟨t + 1, by omega, by go_num, HT2⟩
              case measure => simp [intOf]; omega
        · obtain ⟨g6, hg6⟩ := ext_ex hT.out.below
          have HT3 : Hid (TabR 27 2 w (ext w g6) xss p) := by
            have hT2 := hT.out
            have e : doneRow ni ws nx t ++ nx.drop t = tabAt xss p := by
              rw [show t = S from by omega, List.drop_of_length_le (by rw [HN.out]; exact Nat.le_refl _), List.append_nil, HXP.out, HW.out, ← doneRow_all, HS.out]
            rw [e, hg6] at hT2
            exact Lib.hid hT2.r
          clear hT
          subst hg6
          go_wp2
          go_roundw
          case rel => exact ⟨p, (p : Int) - 1, by omega, rfl, by go_num, HT3⟩
          case measure => simp [intOf]
    · obtain rfl : p = 0 := by omega
      obtain rfl : q = -1 := by omega
      clear hq
      obtain ⟨g, rfl⟩ := ext_ex hT.out.below
      go_wp2
      rw [← HR.out]
      refine ⟨_, g, rfl, rfl, ?_⟩
      have := hT.out.rd
      rw [← HL.out] at this
      exact this
end Go.Proofs.Ythahkoclkjfkdaa
