/- The greedy assignment: what the reference returns. -/
import Derived.Test.YthahkoclkjfkdaaGreedy
namespace Go.Proofs.Ythahkoclkjfkdaa
open Go.RowKit

def encZ : Option (Nat × Nat × Int) → Int
  | none => 0
  | some (_, k, _) => k
theorem better_zero {ws : List (List Int)} {out : List Int} {n0 : Nat} {st : Option (Nat × Nat × Int)} (h : StOk ws out n0 st) : better st 0 = false := by
  rw [better_enc]; have := h.enc; exact decide_eq_false (by omega)
set_option maxHeartbeats 8000000 in
theorem sGreedyAssignment_c (u : Value) (ws : List (List Int)) (w : World) (hu : RdN w u ws) :
    Calls Try.prog 36 #[u] w (RetRow 2 1 (fun v => .tuple #[v, .int .i64 (greedyI ws).2]) (greedyI ws).1.length (celI.row (greedyI ws).1) w) := by
  generalize hR : RetRow _ _ _ _ _ w = R
  have HR := Lib.hid hR
  clear hR
  have HV := Lib.hid (fun w hu => l17Ok_c u ws w hu)
  have hfine := worthsB_fine (xss := ws)
  unfold greedyI at HR
  have hu' := hu
  obtain ⟨a, n, c, rfl, hs⟩ := hu
  have hcap := hs.le; have hmax := hs.cap
  unfold maxLen at hmax
  have HL := Lib.hid hs.len
  rcases h1 : worthsB ws with _ | _ <;> rw [h1] at HR HV
  · clear h1 hfine
    go_enter Try.func36, Try.ntmps36
    go_wp2_with (first | (go_at_call 39; refine Calls.mono (HV.out _ (hu'.bel ?_)) ?_; (focus (repeat (first | with_reducible exact Bel.refl _ | with_reducible assumption | apply Bel.ext | apply Bel.alloc | apply Bel.drew | exact Bel.refl _))); rintro ee ww ⟨rfl, _, rfl⟩))
    rw [← HR.out]
    exact RetRow.mk' rfl (by (repeat (first | with_reducible exact Bel.refl _ | with_reducible assumption | apply Bel.ext | apply Bel.alloc | apply Bel.drew | exact Bel.refl _ | refine Bel.set ?_ (by first | (simp; done) | (simp [go_sem]; done) | omega) _)) : Bel _ _) (World.ownsRow_nil _ _ _ _)
  obtain ⟨f1, f2, f3, f4, f5⟩ := hfine h1
  rw [← HL.out] at f1 f2
  have HF := Lib.hid f5
  clear h1 hfine f5
  simp only [Bool.not_true, Bool.false_eq_true, if_false] at HR
  rw [← HL.out] at HR
  have H0 := Lib.hid (show negs (List.replicate n (-1)) ≤ n from by have := negs_le (List.replicate n (-1)); rwa [List.length_replicate] at this)
  go_enter Try.func36, Try.ntmps36
  go_wp2_with (first | (go_at_call 39; refine Calls.mono (HV.out _ (hu'.bel ?_)) ?_; (focus (repeat (first | with_reducible exact Bel.refl _ | with_reducible assumption | apply Bel.ext | apply Bel.alloc | apply Bel.drew | exact Bel.refl _))); rintro ee ww ⟨rfl, _, rfl⟩))
  go_loopw [4, 5] (fun o i wr => ∃ k : Nat, k ≤ n ∧ i = .int .i64 k ∧ Bel w wr ∧ Hid (wr.ownsRow w.heap.size 2 1 o k (celI.row (List.replicate k (-1))))) (fun _ i _ => n - (intOf i).toNat)
  case atStart => exact ⟨0, Nat.zero_le _, rfl, by (repeat (first | with_reducible exact Bel.refl _ | with_reducible assumption | apply Bel.ext | apply Bel.alloc | apply Bel.drew | exact Bel.refl _ | refine Bel.set ?_ (by first | (simp; done) | (simp [go_sem]; done) | omega) _)), Lib.hid (by refine own_empty _ _ _ _ ?_; exact bel_size (by (repeat (first | with_reducible exact Bel.refl _ | with_reducible assumption | apply Bel.ext | apply Bel.alloc | apply Bel.drew | exact Bel.refl _ | refine Bel.set ?_ (by first | (simp; done) | (simp [go_sem]; done) | omega) _))))⟩
  case round =>
    obtain ⟨k, hk, rfl, hbel, hown⟩ := hrel
    obtain ⟨g, rfl⟩ := ext_ex hbel
    by_cases hlt : k < n
    · go_wp2_with (first | (at_builtin; refine wpList_append_new rfl (.tmp 20) (.tmp 21) 27 2 1 8 rfl appInt (by decide) w _ _ _ 1 [.int .i64 (-1)] rfl (by first | with_reducible rfl | (simp [go_sem]; done)) rfl (by intro u hu; simp at hu; first | (subst hu; rfl) | (rcases hu with rfl | rfl <;> rfl) | (rcases hu with rfl | rfl | rfl <;> rfl)) (own_bel hown.out ?_) ?_ (by omega) (by omega) ?_; (focus (repeat (first | with_reducible exact Bel.refl _ | with_reducible assumption | apply Bel.ext | apply Bel.alloc | apply Bel.drew | exact Bel.refl _))); (focus (repeat (first | with_reducible exact Bel.refl _ | with_reducible assumption | apply Bel.ext | apply Bel.alloc | apply Bel.drew | exact Bel.refl _))); intro v2 g2 hown2 hgr2))
      go_roundw
      case rel =>
        refine ⟨k + 1, by omega, by go_num, by (repeat (first | with_reducible exact Bel.refl _ | with_reducible assumption | apply Bel.ext | apply Bel.alloc | apply Bel.drew | exact Bel.refl _ | refine Bel.set ?_ (by first | (simp; done) | (simp [go_sem]; done) | omega) _)), Lib.hid ?_⟩
        rw [List.replicate_succ', Cel.row_append, Cel.row_one]; exact hown2
      case measure => simp [intOf]; omega
    · have hkn : k = n := by omega
      subst hkn
      have hM2 : Mem w (ext w g) [⟨u4, 2, 1, k, celI.row (List.replicate k (-1))⟩] := by
        have := mem_snoc (mem_bel (mem_nil w) ((Bel.refl w).ext g)) ⟨u4, 2, 1, k, celI.row (List.replicate k (-1))⟩ hown.out (fun j s hj => by simp at hj)
        simpa using this
      obtain ⟨b, c2, hv0⟩ := mem_row_v hM2 0 rfl f1
      subst hv0
      clear hown
      go_wp2_with fail
      clear hk hlt
      go_loopw [] (fun wr => ∃ (out : List Int) (m : Nat), Hid (out.length = k) ∧ Hid (negs out ≤ m) ∧ Hid (greedyF ws (k + 1) (List.replicate k (-1)) = greedyF ws (m + 1) out) ∧ Mem w wr [⟨.slice (some ⟨b, 0, none⟩) k c2, 2, 1, k, celI.row out⟩]) (fun wr => negW wr b k)
      case atStart => exact ⟨List.replicate k (-1), k, Lib.hid (by simp), H0, Lib.hid rfl, mem_bel hM2 (by (repeat (first | with_reducible exact Bel.refl _ | with_reducible assumption | apply Bel.ext | apply Bel.alloc | apply Bel.drew | exact Bel.refl _ | refine Bel.set ?_ (by first | (simp; done) | (simp [go_sem]; done) | omega) _)))⟩
      case round =>
        clear hM2
        obtain ⟨out, m, hl, hng, hgr, hM⟩ := hrel
        obtain ⟨k1, k2, k3, k4⟩ := mem_cells hM 0 rfl f1
        have HX := Lib.hid (fun (j : Nat) (x : Int) (h : out[j]? = some x) => k1 j _ (rowI_at h))
        have HZ := Lib.hid k2
        clear k1 k2
        have hwX : Bel w wr := hM.bel
        have hsX := hs.bel hwX
        have RO : Rd celI wr (.slice (some ⟨b, 0, none⟩) k c2) out := rd_of_row (B := w.heap.size) (e := 2) (by rw [hl.out]; exact hM.own 0 _ rfl)
        have RO2 := RO
        obtain ⟨ao, no, co, hro, hsO⟩ := RO2.sl
        simp only [Value.slice.injEq] at hro
        obtain ⟨rfl, rfl, rfl⟩ := hro
        have hc2 := hsO.le; have hm2 := hsO.cap
        unfold maxLen at hm2
        have hMX := Lib.hid hM
        clear hM hsO
        obtain ⟨bb, off, hab, hb⟩ := hsX.base f1
        subst hab
        obtain ⟨a0, n0, c0, row0, hx0', hcc0, hs0⟩ := hsX.row f1
        rw [Nat.add_zero] at hcc0
        have hr0 := HF.out row0 (List.mem_of_getElem? hx0'.out)
        have hn0 : n0 = wid ws := by rw [hs0.len]; exact hr0.1
        have hci0 := hs0.le; have hcm0 := hs0.cap
        unfold maxLen at hcm0
        subst hn0
        clear hr0 hs0 hx0'
        go_wp2_with fail
        go_loopw [6, 7, 8] (fun o s i wy => ∃ (i' : Nat) (st : Option (Nat × Nat × Int)), i' ≤ k ∧ i = .int .i64 i' ∧ o = .int .i64 (encO st) ∧ s = .int .i64 (encZ st) ∧ Hid (StOk ws out k st) ∧ (∃ g, wy = ext wr g) ∧ Hid (scanAll out 0 none ws = scanAll out i' st (ws.drop i'))) (fun _ _ i _ => k - (intOf i).toNat)
        case atStart => exact ⟨0, none, Nat.zero_le _, rfl, rfl, rfl, Lib.hid (.inl rfl), ext_ex (Bel.refl _), Lib.hid rfl⟩
        case round =>
          obtain ⟨i, st, hk, rfl, rfl, rfl, hst, ⟨g, rfl⟩, hv⟩ := hrel
          by_cases hlt2 : i < k
          · obtain ⟨ai, ni, ci, row, hx, hc0, hsi⟩ := hsX.row hlt2
            have hci := hsi.le; have hcm := hsi.cap
            unfold maxLen at hcm
            have hrw := HF.out row (List.mem_of_getElem? hx.out)
            have hni : ni = wid ws := by rw [hsi.len]; exact hrw.1
            subst hni
            have HNI := Lib.hid hsi.len
            have HRW := Lib.hid hrw.2
            clear hrw
            have hyl : i < out.length := by rw [hl.out]; exact hlt2
            have hy : out[i]? = some out[i] := List.getElem?_eq_getElem hyl
            generalize out[i] = y at hy
            have HY := Lib.hid hy
            have FY := HX.out i y hy
            clear hy hyl
            go_wp2_with fail
            go_loopw [6, 7, 9] (fun o s kk wy => ∃ (j : Nat) (st2 : Option (Nat × Nat × Int)), j ≤ wid ws ∧ kk = .int .i64 j ∧ o = .int .i64 (encO st2) ∧ s = .int .i64 (encZ st2) ∧ Hid (StOk ws out k st2) ∧ (∃ g, wy = ext wr g) ∧ Hid (scanRow out i 0 st row = scanRow out i j st2 (row.drop j))) (fun _ _ kk _ => wid ws - (intOf kk).toNat)
            case atStart => exact ⟨0, st, Nat.zero_le _, rfl, rfl, rfl, hst, ext_ex (by (repeat (first | with_reducible exact Bel.refl _ | with_reducible assumption | apply Bel.ext | apply Bel.alloc | apply Bel.drew | exact Bel.refl _ | refine Bel.set ?_ (by first | (simp; done) | (simp [go_sem]; done) | omega) _)) : Bel _ _), Lib.hid rfl⟩
            case round =>
              obtain ⟨j, st2, hj, rfl, rfl, rfl, hst2, ⟨g2, rfl⟩, hv2⟩ := hrel
              by_cases hlj : j < wid ws
              · obtain ⟨b', off', rfl, hb'⟩ := hsi.base hlj
                obtain ⟨x, hx2, hd0⟩ := hsi.at1 hlj
                obtain ⟨x1, x2⟩ := HRW.out x (List.mem_of_getElem? hx2.out)
                have HC := Lib.hid (fun w' (hw' : Bel wr w') => l00Has_c _ out (j : Int) w' (RO.bel hw'))
                have HBE := Lib.hid (better_enc st2 x)
                by_cases hy0 : y < 0
                · have HY0 := Lib.hid (decide_eq_true hy0)
                  have HY1 := Lib.hid hy0
                  rcases hC : decide ((j : Int) ∈ out) with _ | _ <;> rw [hC] at HC
                  · have HC2 := Lib.hid hC
                    clear hC
                    by_cases hx0 : x = 0
                    · subst hx0
                      have HBZ := Lib.hid (better_zero hst2.out)
                      go_wp2_with (first | (go_at_call 56; refine Calls.mono (HC.out _ ?_) ?_; (focus (repeat (first | with_reducible exact Bel.refl _ | with_reducible assumption | apply Bel.ext | apply Bel.alloc | apply Bel.drew | exact Bel.refl _))); rintro ee ww ⟨rfl, _, rfl⟩))
                      go_roundw
                      case rel =>
                        refine ⟨j + 1, st2, by omega, by go_num, rfl, rfl, hst2, ext_ex (by (repeat (first | with_reducible exact Bel.refl _ | with_reducible assumption | apply Bel.ext | apply Bel.alloc | apply Bel.drew | exact Bel.refl _ | refine Bel.set ?_ (by first | (simp; done) | (simp [go_sem]; done) | omega) _)) : Bel _ _), Lib.hid ?_⟩
                        rw [hv2.out, scanRow_step hx2.out, free_of HY.out, HY0.out, HC2.out, HBZ.out]; rfl
                      case measure => simp [intOf]; omega

                    · have hxn : (x == 0) = false := by simp [hx0]
                      have hx0 : 0 < x := by omega
                      rcases hst2.out with rfl | ⟨i2, j2, m2, y2, row2, rfl, q1, q2, q3, q4, q5, q6, q7⟩
                      · dsimp only [encO, encZ]
                        go_wp2_with (first | (go_at_call 56; refine Calls.mono (HC.out _ ?_) ?_; (focus (repeat (first | with_reducible exact Bel.refl _ | with_reducible assumption | apply Bel.ext | apply Bel.alloc | apply Bel.drew | exact Bel.refl _))); rintro ee ww ⟨rfl, _, rfl⟩))
                        (refine region_ext (by kernel_rfl) (by kernel_rfl) ?_; (repeat (go_big_quiet_step (fail))); refine wpQuiet_nil ?_; rintro _ ⟨_, rfl⟩)
                        go_wp2
                        go_roundw
                        case rel =>
                          refine ⟨j + 1, some (i, j, x), by omega, by go_num, rfl, rfl, Lib.hid (.inr ⟨i, j, x, y, row, rfl, HY.out, HY1.out, hx.out, hx2.out, hx0, hlt2, by omega⟩), ext_ex (by (repeat (first | with_reducible exact Bel.refl _ | with_reducible assumption | apply Bel.ext | apply Bel.alloc | apply Bel.drew | exact Bel.refl _ | refine Bel.set ?_ (by first | (simp; done) | (simp [go_sem]; done) | omega) _)) : Bel _ _), Lib.hid ?_⟩
                          rw [hv2.out, scanRow_step hx2.out, free_of HY.out, HBE.out, HY0.out, HC2.out]; simp [encM, hx0]
                        case measure => simp [intOf]; omega
                      · obtain ⟨aw, nw, cw, row3, hx3, hcw, hsw⟩ := hsX.row q6
                        obtain rfl : row3 = row2 := Option.some.inj (hx3.out.symm.trans q3)
                        have hnw : nw = wid ws := by rw [hsw.len]; exact (HF.out row3 (List.mem_of_getElem? q3)).1
                        subst hnw
                        have hj2 : j2 < wid ws := by have h9 := (List.getElem?_eq_some_iff.1 q4).1; rw [← hsw.len] at h9; exact h9
                        have hcw1 := hsw.le; have hcw2 := hsw.cap
                        unfold maxLen at hcw2
                        obtain ⟨bw, ow, rfl, hbw⟩ := hsw.base hj2
                        obtain ⟨x3, hx4, hdw⟩ := hsw.at1 hj2
                        obtain rfl : x3 = m2 := Option.some.inj (hx4.out.symm.trans q4)
                        have hi2 : decide ((i2 : Int) < 0) = false := by simp
                        have HQ2 := Lib.hid q1
                        have HQ3 := Lib.hid q3
                        have HQ4 := Lib.hid q4
                        have HEM := Lib.hid (show encM (some (i2, j2, x3)) = x3 from rfl)
                        clear q1 q3 q4 hsw
                        dsimp only [encO, encZ]
                        by_cases hbt : x3 < x
                        · have hbtd : decide (x3 < x) = true := decide_eq_true hbt
                          have HBT := Lib.hid hbtd
                          go_wp2_with (first | (go_at_call 56; refine Calls.mono (HC.out _ ?_) ?_; (focus (repeat (first | with_reducible exact Bel.refl _ | with_reducible assumption | apply Bel.ext | apply Bel.alloc | apply Bel.drew | exact Bel.refl _))); rintro ee ww ⟨rfl, _, rfl⟩))
                          (refine region_ext (by kernel_rfl) (by kernel_rfl) ?_; (repeat (go_big_quiet_step (fail))); refine wpQuiet_nil ?_; rintro _ ⟨_, rfl⟩)
                          go_wp2
                          go_roundw
                          case rel =>
                            refine ⟨j + 1, some (i, j, x), by omega, by go_num, rfl, rfl, Lib.hid (.inr ⟨i, j, x, y, row, rfl, HY.out, HY1.out, hx.out, hx2.out, hx0, hlt2, by omega⟩), ext_ex (by (repeat (first | with_reducible exact Bel.refl _ | with_reducible assumption | apply Bel.ext | apply Bel.alloc | apply Bel.drew | exact Bel.refl _ | refine Bel.set ?_ (by first | (simp; done) | (simp [go_sem]; done) | omega) _)) : Bel _ _), Lib.hid ?_⟩
                            rw [hv2.out, scanRow_step hx2.out, free_of HY.out, HBE.out, HY0.out, HC2.out]; simp [HEM.out, hbt]
                          case measure => simp [intOf]; omega
                        · have hbtd : decide (x3 < x) = false := decide_eq_false hbt
                          have HBT := Lib.hid hbtd
                          have HS2 := Lib.hid hst2.out
                          go_wp2_with (first | (go_at_call 56; refine Calls.mono (HC.out _ ?_) ?_; (focus (repeat (first | with_reducible exact Bel.refl _ | with_reducible assumption | apply Bel.ext | apply Bel.alloc | apply Bel.drew | exact Bel.refl _))); rintro ee ww ⟨rfl, _, rfl⟩))
                          (refine region_ext (by kernel_rfl) (by kernel_rfl) ?_; (repeat (go_big_quiet_step (fail))); refine wpQuiet_nil ?_; rintro _ ⟨_, rfl⟩)
                          go_wp2
                          go_roundw
                          case rel =>
                            refine ⟨j + 1, some (i2, j2, x3), by omega, by go_num, rfl, rfl, HS2, ext_ex (by (repeat (first | with_reducible exact Bel.refl _ | with_reducible assumption | apply Bel.ext | apply Bel.alloc | apply Bel.drew | exact Bel.refl _ | refine Bel.set ?_ (by first | (simp; done) | (simp [go_sem]; done) | omega) _)) : Bel _ _), Lib.hid ?_⟩
                            rw [hv2.out, scanRow_step hx2.out, free_of HY.out, HBE.out, HY0.out, HC2.out, HEM.out, HBT.out]; rfl
                          case measure => simp [intOf]; omega
                  · have HC2 := Lib.hid hC
                    clear hC
                    go_wp2_with (first | (go_at_call 56; refine Calls.mono (HC.out _ ?_) ?_; (focus (repeat (first | with_reducible exact Bel.refl _ | with_reducible assumption | apply Bel.ext | apply Bel.alloc | apply Bel.drew | exact Bel.refl _))); rintro ee ww ⟨rfl, _, rfl⟩))
                    go_roundw
                    case rel =>
                      refine ⟨j + 1, st2, by omega, by go_num, rfl, rfl, hst2, ext_ex (by (repeat (first | with_reducible exact Bel.refl _ | with_reducible assumption | apply Bel.ext | apply Bel.alloc | apply Bel.drew | exact Bel.refl _ | refine Bel.set ?_ (by first | (simp; done) | (simp [go_sem]; done) | omega) _)) : Bel _ _), Lib.hid ?_⟩
                      rw [hv2.out, scanRow_step hx2.out, free_of HY.out, HY0.out, HC2.out]; rfl
                    case measure => simp [intOf]; omega

                · have HY0 := Lib.hid (decide_eq_false hy0)
                  go_wp2_with (first | (go_at_call 56; refine Calls.mono (HC.out _ ?_) ?_; (focus (repeat (first | with_reducible exact Bel.refl _ | with_reducible assumption | apply Bel.ext | apply Bel.alloc | apply Bel.drew | exact Bel.refl _))); rintro ee ww ⟨rfl, _, rfl⟩))
                  go_roundw
                  case rel =>
                    refine ⟨j + 1, st2, by omega, by go_num, rfl, rfl, hst2, ext_ex (by (repeat (first | with_reducible exact Bel.refl _ | with_reducible assumption | apply Bel.ext | apply Bel.alloc | apply Bel.drew | exact Bel.refl _ | refine Bel.set ?_ (by first | (simp; done) | (simp [go_sem]; done) | omega) _)) : Bel _ _), Lib.hid ?_⟩
                    rw [hv2.out, scanRow_step hx2.out, free_of HY.out, HY0.out]; rfl
                  case measure => simp [intOf]; omega

              · have HE := Lib.hid (scanRow_end (out := out) (i := i) (st := st2) (row := row) (k := j) (by rw [← HNI.out]; omega))
                go_wp2
                go_roundw
                case rel =>
                  refine ⟨i + 1, st2, by omega, by go_num, rfl, rfl, hst2, ext_ex (by (repeat (first | with_reducible exact Bel.refl _ | with_reducible assumption | apply Bel.ext | apply Bel.alloc | apply Bel.drew | exact Bel.refl _ | refine Bel.set ?_ (by first | (simp; done) | (simp [go_sem]; done) | omega) _)) : Bel _ _), Lib.hid ?_⟩
                  rw [hv.out, scanAll_step hx.out, hv2.out, HE.out]
                case measure => simp [intOf]; omega
          · have hvv := hv.out
            rw [scanAll_end (by rw [← HL.out]; omega)] at hvv
            have HVV := Lib.hid hvv
            clear hvv hv
            rcases hst.out with rfl | ⟨i3, j3, mm, y, row, rfl, q1, q2, q3, q4, q5, q6, q7⟩
            · have HG2 := Lib.hid (hgr.out.trans (greedyF_stop HVV.out))
              dsimp only [encO, encZ]
              go_wp2
              rw [← HR.out]
              rw [HG2.out]
              refine RetRow.mk' rfl ?_ (own_cast (own_bel (hMX.out.own 0 _ rfl) ?_) hl.out.symm rfl)
              · exact Below.trans hwX (Below.mono (by (repeat (first | with_reducible exact Bel.refl _ | with_reducible assumption | apply Bel.ext | apply Bel.alloc | apply Bel.drew | exact Bel.refl _ | refine Bel.set ?_ (by first | (simp; done) | (simp [go_sem]; done) | omega) _)) : Bel wr _) hwX.size)
              · (repeat (first | with_reducible exact Bel.refl _ | with_reducible assumption | apply Bel.ext | apply Bel.alloc | apply Bel.drew | exact Bel.refl _ | refine Bel.set ?_ (by first | (simp; done) | (simp [go_sem]; done) | omega) _))
            · have hng1 := negs_set q1 q2 (show 0 ≤ (j3 : Int) by omega)
              have hng2 := hng.out
              obtain ⟨m', rfl⟩ : ∃ m', m = m' + 1 := ⟨m - 1, by omega⟩
              have HN := Lib.hid (show negs (out.set i3 (j3 : Int)) ≤ m' by omega)
              have HN1 := Lib.hid hng1
              have HG2 := Lib.hid (hgr.out.trans (greedyF_go HVV.out))
              have FI := HX.out i3 y q1
              have FZ := HZ.out i3
              clear hng1 hng2 q1 q2 q3 q4 q5
              dsimp only [encO, encZ]
              go_wp2
              have hm3 : Mem w ((ext wr g).setCell ⟨b, i3, none⟩ (.int .i64 (j3 : Int))) [⟨.slice (some ⟨b, 0, none⟩) k c2, 2, 1, k, celI.row (out.set i3 (j3 : Int))⟩] := by
                have h := mem_store (mem_bel hMX.out ((Bel.refl wr).ext g)) 0 rfl i3 (.int .i64 (j3 : Int))
                rw [rowI_set] at h; exact h
              go_roundw
              case rel =>
                exact ⟨out.set i3 (j3 : Int), m', Lib.hid (by rw [List.length_set]; exact hl.out), HN, HG2, hm3⟩
              case measure =>
                obtain ⟨r1, _⟩ := mem_cells hMX.out 0 rfl f1
                obtain ⟨r2, _⟩ := mem_cells hm3 0 rfl f1
                rw [negW_eq hl.out (fun j x h => r1 j _ (rowI_at h)), negW_eq (by rw [List.length_set]; exact hl.out) (fun j x h => r2 j _ (rowI_at h)), ← HN1.out]
                omega
end Go.Proofs.Ythahkoclkjfkdaa
