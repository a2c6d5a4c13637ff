/- The greedy assignment: what the program returns. -/
import Derived.Test.YthahkoclkjfkdaaGreedyPlain2
import Derived.Test.YthahkoclkjfkdaaRepeat
import Derived.Test.YthahkoclkjfkdaaAssn
namespace Go.Proofs.Ythahkoclkjfkdaa
open Go.RowKit

theorem own_cast {w : World} {B : Nat} {e : TypeId} {size : Nat} {v : Value} {n m : Nat} {xs ys : List Value} (h : w.ownsRow B e size v n xs) (hn : n = m) (hx : xs = ys) : w.ownsRow B e size v m ys := by subst hn hx; exact h
set_option maxHeartbeats 8000000 in
theorem GreedyAssignment_c (u : Value) (ws : List (List Int)) (w : World) (hu : RdN w u ws) :
    Calls Try.prog 37 #[u] w (RetRow 2 1 (fun v => .tuple #[v, .int .i64 (greedyI ws).2]) (greedyI ws).1.length (celI.row (greedyI ws).1) w) := by
  generalize hR : RetRow _ _ _ _ _ w = R
  have HR := Lib.hid hR
  clear hR
  have HV := Lib.hid (fun w hu => ValidWorths_c u ws w hu)
  have hfine := worthsB_fine (xss := ws)
  unfold greedyI at HR
  have hu' := hu
  obtain ⟨a, n, c, rfl, hs⟩ := hu
  have hcap := hs.le; have hmax := hs.cap
  unfold maxLen at hmax
  have HL := Lib.hid hs.len
  rcases h1 : worthsB ws with _ | _ <;> rw [h1] at HR HV
  · clear h1 hfine
    go_enter Try.func37, Try.ntmps37
    go_wp2_with (first | (go_at_call 15; refine Calls.mono (HV.out _ (hu'.bel ?_)) ?_; (focus (repeat (first | with_reducible exact Bel.refl _ | with_reducible assumption | apply Bel.ext | apply Bel.alloc | apply Bel.drew | exact Bel.refl _))); rintro ee ww ⟨rfl, _, rfl⟩))
    rw [← HR.out]
    exact RetRow.mk' rfl (by (repeat (first | with_reducible exact Bel.refl _ | with_reducible assumption | apply Bel.ext | apply Bel.alloc | apply Bel.drew | exact Bel.refl _ | refine Bel.set ?_ (by first | (simp; done) | (simp [go_sem]; done) | omega) _)) : Bel _ _) (World.ownsRow_nil _ _ _ _)
  obtain ⟨f1, f2, f3, f4, f5⟩ := hfine h1
  rw [← HL.out] at f1 f2
  have HF := Lib.hid f5
  clear h1 hfine f5
  simp only [Bool.not_true, Bool.false_eq_true, if_false] at HR
  rw [← HL.out] at HR
  have H0 := Lib.hid (show negs (List.replicate n (-1)) ≤ n from by have := negs_le (List.replicate n (-1)); rwa [List.length_replicate] at this)
  go_enter Try.func37, Try.ntmps37
  go_wp2_with (first | (go_at_call 15; refine Calls.mono (HV.out _ (hu'.bel ?_)) ?_; (focus (repeat (first | with_reducible exact Bel.refl _ | with_reducible assumption | apply Bel.ext | apply Bel.alloc | apply Bel.drew | exact Bel.refl _))); rintro ee ww ⟨rfl, _, rfl⟩))
  refine Calls.mono (mem_row (mem_nil w) ?_ (Repeat_c _ 0 1 (-1) n f1 f2 _ ?_ ?_ (Nat.le_refl 1) (by unfold maxLen; omega))) ?_
  · (repeat (first | with_reducible exact Bel.refl _ | with_reducible assumption | apply Bel.ext | apply Bel.alloc | apply Bel.drew | exact Bel.refl _ | refine Bel.set ?_ (by first | (simp; done) | (simp [go_sem]; done) | omega) _))
  · simp
  · simp [go_sem]
  rintro ee ww ⟨v0, g1, rfl, rfl, hM2⟩
  rw [List.nil_append] at hM2
  obtain ⟨b, c2, hv0⟩ := mem_row_v hM2 0 rfl f1
  subst hv0
  go_wp2_with fail
  go_loopw [] (fun wr => ∃ (out : List Int) (m : Nat), Hid (out.length = n) ∧ Hid (negs out ≤ m) ∧ Hid (greedyF ws (n + 1) (List.replicate n (-1)) = greedyF ws (m + 1) out) ∧ Mem w wr [⟨.slice (some ⟨b, 0, none⟩) n c2, 2, 1, n, celI.row out⟩]) (fun wr => negW wr b n)
  case atStart => exact ⟨List.replicate n (-1), n, Lib.hid (by simp), H0, Lib.hid rfl, hM2⟩
  case round =>
    clear hM2
    obtain ⟨out, m, hl, hng, hgr, hM⟩ := hrel
    obtain ⟨k1, k2, k3, k4⟩ := mem_cells hM 0 rfl f1
    have HX := Lib.hid (fun (j : Nat) (x : Int) (h : out[j]? = some x) => k1 j _ (rowI_at h))
    have HZ := Lib.hid k2
    clear k1 k2
    have hwX : Bel w wr := hM.bel
    have hsX := hs.bel hwX
    have RO : Rd celI wr (.slice (some ⟨b, 0, none⟩) n c2) out := rd_of_row (B := w.heap.size) (e := 2) (by rw [hl.out]; exact hM.own 0 _ rfl)
    have RO2 := RO
    obtain ⟨ao, no, co, hro, hsO⟩ := RO2.sl
    simp only [Value.slice.injEq] at hro
    obtain ⟨rfl, rfl, rfl⟩ := hro
    have hc2 := hsO.le; have hm2 := hsO.cap
    unfold maxLen at hm2
    have hMX := Lib.hid hM
    clear hM hsO
    go_wp2_with fail
    go_loopw [5, 6, 7, 21] (fun o s mm i wy => ∃ (k : Nat) (st : Option (Nat × Nat × Int)), k ≤ n ∧ i = .int .i64 k ∧ o = .int .i64 (encO st) ∧ s = .int .i64 (encS st) ∧ mm = .int .i64 (encM st) ∧ Hid (StOk ws out n st) ∧ (∃ g, wy = ext wr g) ∧ Hid (scanAll out 0 none ws = scanAll out k st (ws.drop k))) (fun _ _ _ i _ => n - (intOf i).toNat)
    case atStart => exact ⟨0, none, Nat.zero_le _, rfl, rfl, rfl, rfl, Lib.hid (.inl rfl), ext_ex (Bel.refl _), Lib.hid rfl⟩
    case round =>
      obtain ⟨k, st, hk, rfl, rfl, rfl, rfl, hst, ⟨g, rfl⟩, hv⟩ := hrel
      by_cases hlt : k < n
      · obtain ⟨bb, off, rfl, hb⟩ := hsX.base hlt
        obtain ⟨ai, ni, ci, row, hx, hc0, hsi⟩ := hsX.row hlt
        have hci := hsi.le; have hcm := hsi.cap
        unfold maxLen at hcm
        have HNI := Lib.hid hsi.len
        have hrw := HF.out row (List.mem_of_getElem? hx.out)
        have hni8 : ni ≤ 8 := by rw [HNI.out, hrw.1]; exact f4
        have HRW := Lib.hid hrw.2
        clear hrw
        have hyl : k < out.length := by rw [hl.out]; exact hlt
        have hy : out[k]? = some out[k] := List.getElem?_eq_getElem hyl
        generalize out[k] = y at hy
        have HY := Lib.hid hy
        have FY := HX.out k y hy
        clear hy hyl
        go_wp2_with fail
        go_loopw [5, 6, 7, 28] (fun o s mm kk wy => ∃ (j : Nat) (st2 : Option (Nat × Nat × Int)), j ≤ ni ∧ kk = .int .i64 j ∧ o = .int .i64 (encO st2) ∧ s = .int .i64 (encS st2) ∧ mm = .int .i64 (encM st2) ∧ Hid (StOk ws out n st2) ∧ (∃ g, wy = ext wr g) ∧ Hid (scanRow out k 0 st row = scanRow out k j st2 (row.drop j))) (fun _ _ _ kk _ => ni - (intOf kk).toNat)
        case atStart => exact ⟨0, st, Nat.zero_le _, rfl, rfl, rfl, rfl, hst, ext_ex (by (repeat (first | with_reducible exact Bel.refl _ | with_reducible assumption | apply Bel.ext | apply Bel.alloc | apply Bel.drew | exact Bel.refl _ | refine Bel.set ?_ (by first | (simp; done) | (simp [go_sem]; done) | omega) _)) : Bel _ _), Lib.hid rfl⟩
        case round =>
          obtain ⟨j, st2, hj, rfl, rfl, rfl, rfl, hst2, ⟨g2, rfl⟩, hv2⟩ := hrel
          by_cases hlj : j < ni
          · obtain ⟨b', off', rfl, hb'⟩ := hsi.base hlj
            obtain ⟨x, hx2, hd0⟩ := hsi.at1 hlj
            obtain ⟨x1, x2⟩ := HRW.out x (List.mem_of_getElem? hx2.out)
            have HC := Lib.hid (fun w' (hw' : Bel wr w') => ContainsI_c _ out (j : Int) w' (RO.bel hw'))
            have HBE := Lib.hid (better_enc st2 x)
            have hem := hst2.out.enc
            by_cases hy0 : y < 0
            · have HY0 := Lib.hid (decide_eq_true hy0)
              rcases hC : decide ((j : Int) ∈ out) with _ | _ <;> rw [hC] at HC
              · by_cases hbt : encM st2 < x
                · have HB := Lib.hid (decide_eq_true hbt)
                  have HC2 := Lib.hid hC
                  have HY1 := Lib.hid hy0
                  clear hC
                  have hx0 : 0 < x := by omega
                  go_wp2_with (first | (go_at_call 58; refine Calls.mono (HC.out _ ?_) ?_; (focus (repeat (first | with_reducible exact Bel.refl _ | with_reducible assumption | apply Bel.ext | apply Bel.alloc | apply Bel.drew | exact Bel.refl _))); rintro ee ww ⟨rfl, _, rfl⟩))
                  go_roundw
                  case rel =>
                    refine ⟨j + 1, some (k, j, x), by omega, by go_num, rfl, rfl, rfl, Lib.hid (.inr ⟨k, j, x, y, row, rfl, HY.out, HY1.out, hx.out, hx2.out, hx0, hlt, by omega⟩), ext_ex (by (repeat (first | with_reducible exact Bel.refl _ | with_reducible assumption | apply Bel.ext | apply Bel.alloc | apply Bel.drew | exact Bel.refl _ | refine Bel.set ?_ (by first | (simp; done) | (simp [go_sem]; done) | omega) _)) : Bel _ _), Lib.hid ?_⟩
                    rw [hv2.out, scanRow_step hx2.out, free_of HY.out, HBE.out, HB.out, HY0.out, HC2.out]; rfl
                  case measure => simp [intOf]; omega
                · have HB := Lib.hid (decide_eq_false hbt)
                  have HC2 := Lib.hid hC
                  clear hC
                  go_wp2_with (first | (go_at_call 58; refine Calls.mono (HC.out _ ?_) ?_; (focus (repeat (first | with_reducible exact Bel.refl _ | with_reducible assumption | apply Bel.ext | apply Bel.alloc | apply Bel.drew | exact Bel.refl _))); rintro ee ww ⟨rfl, _, rfl⟩))
                  go_roundw
                  case rel =>
                    refine ⟨j + 1, st2, by omega, by go_num, rfl, rfl, rfl, hst2, ext_ex (by (repeat (first | with_reducible exact Bel.refl _ | with_reducible assumption | apply Bel.ext | apply Bel.alloc | apply Bel.drew | exact Bel.refl _ | refine Bel.set ?_ (by first | (simp; done) | (simp [go_sem]; done) | omega) _)) : Bel _ _), Lib.hid ?_⟩
                    rw [hv2.out, scanRow_step hx2.out, free_of HY.out, HBE.out, HB.out, HY0.out, HC2.out]; rfl
                  case measure => simp [intOf]; omega
              · have HC2 := Lib.hid hC
                clear hC
                go_wp2_with (first | (go_at_call 58; refine Calls.mono (HC.out _ ?_) ?_; (focus (repeat (first | with_reducible exact Bel.refl _ | with_reducible assumption | apply Bel.ext | apply Bel.alloc | apply Bel.drew | exact Bel.refl _))); rintro ee ww ⟨rfl, _, rfl⟩))
                go_roundw
                case rel =>
                  refine ⟨j + 1, st2, by omega, by go_num, rfl, rfl, rfl, hst2, ext_ex (by (repeat (first | with_reducible exact Bel.refl _ | with_reducible assumption | apply Bel.ext | apply Bel.alloc | apply Bel.drew | exact Bel.refl _ | refine Bel.set ?_ (by first | (simp; done) | (simp [go_sem]; done) | omega) _)) : Bel _ _), Lib.hid ?_⟩
                  rw [hv2.out, scanRow_step hx2.out, free_of HY.out, HY0.out, HC2.out]; rfl
                case measure => simp [intOf]; omega
            · have HY0 := Lib.hid (decide_eq_false hy0)
              go_wp2_with (first | (go_at_call 58; refine Calls.mono (HC.out _ ?_) ?_; (focus (repeat (first | with_reducible exact Bel.refl _ | with_reducible assumption | apply Bel.ext | apply Bel.alloc | apply Bel.drew | exact Bel.refl _))); rintro ee ww ⟨rfl, _, rfl⟩))
              go_roundw
              case rel =>
                refine ⟨j + 1, st2, by omega, by go_num, rfl, rfl, rfl, hst2, ext_ex (by (repeat (first | with_reducible exact Bel.refl _ | with_reducible assumption | apply Bel.ext | apply Bel.alloc | apply Bel.drew | exact Bel.refl _ | refine Bel.set ?_ (by first | (simp; done) | (simp [go_sem]; done) | omega) _)) : Bel _ _), Lib.hid ?_⟩
                rw [hv2.out, scanRow_step hx2.out, free_of HY.out, HY0.out]; rfl
              case measure => simp [intOf]; omega
          · have HE := Lib.hid (scanRow_end (out := out) (i := k) (st := st2) (row := row) (k := j) (by rw [← HNI.out]; omega))
            go_wp2
            go_roundw
            case rel =>
              refine ⟨k + 1, st2, by omega, by go_num, rfl, rfl, rfl, hst2, ext_ex (by (repeat (first | with_reducible exact Bel.refl _ | with_reducible assumption | apply Bel.ext | apply Bel.alloc | apply Bel.drew | exact Bel.refl _ | refine Bel.set ?_ (by first | (simp; done) | (simp [go_sem]; done) | omega) _)) : Bel _ _), Lib.hid ?_⟩
              rw [hv.out, scanAll_step hx.out, hv2.out, HE.out]
            case measure => simp [intOf]; omega
      · have hvv := hv.out
        rw [scanAll_end (by rw [← HL.out]; omega)] at hvv
        have HVV := Lib.hid hvv
        clear hvv hv
        rcases hst.out with rfl | ⟨i, j, mm, y, row, rfl, q1, q2, q3, q4, q5, q6, q7⟩
        · have HG2 := Lib.hid (hgr.out.trans (greedyF_stop HVV.out))
          go_wp2
          rw [← HR.out]
          rw [HG2.out]
          refine RetRow.mk' rfl ?_ (own_cast (own_bel (hMX.out.own 0 _ rfl) ?_) hl.out.symm rfl)
          · exact Below.trans hwX (Below.mono (by (repeat (first | with_reducible exact Bel.refl _ | with_reducible assumption | apply Bel.ext | apply Bel.alloc | apply Bel.drew | exact Bel.refl _ | refine Bel.set ?_ (by first | (simp; done) | (simp [go_sem]; done) | omega) _)) : Bel wr _) hwX.size)
          · (repeat (first | with_reducible exact Bel.refl _ | with_reducible assumption | apply Bel.ext | apply Bel.alloc | apply Bel.drew | exact Bel.refl _ | refine Bel.set ?_ (by first | (simp; done) | (simp [go_sem]; done) | omega) _))
        · have hng1 := negs_set q1 q2 (show 0 ≤ (j : Int) by omega)
          have hng2 := hng.out
          obtain ⟨m', rfl⟩ : ∃ m', m = m' + 1 := ⟨m - 1, by omega⟩
          have HN := Lib.hid (show negs (out.set i (j : Int)) ≤ m' by omega)
          have HN1 := Lib.hid hng1
          have HG2 := Lib.hid (hgr.out.trans (greedyF_go HVV.out))
          have FI := HX.out i y q1
          have FZ := HZ.out i
          clear hng1 hng2 q1 q2 q3 q4 q5
          dsimp only [encO, encS, encM]
          go_wp2
          have hm3 : Mem w ((ext wr g).setCell ⟨b, i, none⟩ (.int .i64 (j : Int))) [⟨.slice (some ⟨b, 0, none⟩) n c2, 2, 1, n, celI.row (out.set i (j : Int))⟩] := by
            have h := mem_store (mem_bel hMX.out ((Bel.refl wr).ext g)) 0 rfl i (.int .i64 (j : Int))
            rw [rowI_set] at h; exact h
          go_roundw
          case rel =>
            exact ⟨out.set i (j : Int), m', Lib.hid (by rw [List.length_set]; exact hl.out), HN, HG2, hm3⟩
          case measure =>
            obtain ⟨r1, _⟩ := mem_cells hMX.out 0 rfl f1
            obtain ⟨r2, _⟩ := mem_cells hm3 0 rfl f1
            rw [negW_eq hl.out (fun j x h => r1 j _ (rowI_at h)), negW_eq (by rw [List.length_set]; exact hl.out) (fun j x h => r2 j _ (rowI_at h)), ← HN1.out]
            omega
end Go.Proofs.Ythahkoclkjfkdaa
