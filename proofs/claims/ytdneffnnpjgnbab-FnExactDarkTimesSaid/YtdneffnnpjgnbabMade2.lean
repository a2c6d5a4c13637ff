/- The reference's windows by rule 2: l15Made. -/
import Derived.Test.YtdneffnnpjgnbabMadeLib
namespace Go.Proofs.Ytdneffnnpjgnbab
open Go.RowKit

set_option maxRecDepth 100000 in
set_option maxHeartbeats 16000000 in
theorem l15Made2_c (r : Int) (hr : r = 2) (u v : Value) (xs ys : List (Int × Int)) (hx : xs.length ≤ 1000) (hy : ys.length ≤ 1000) (hbx : bdW xs) (hby : bdW ys) (w : World) (hu : Rd cel2 w u xs) (hv : Rd cel2 w v ys) :
    Calls Try.prog 27 #[u, v, .int .i64 r] w (RetRow 35 2 (fun v => v) (madeL r xs ys).length (cel2.row (madeL r xs ys)) w) := by
  generalize hR : RetRow _ _ _ _ _ w = R
  have HR := Lib.hid hR
  clear hR
  have HBX := Lib.hid hbx
  have HBY := Lib.hid hby
  have HA := Lib.hid (fun t w hu => l15In_c u xs t w hu)
  have HA' := Lib.hid (fun t w hv => l15In_c v ys t w hv)
  have HU := Lib.hid (fun x (hx : Bel w x) => hu.bel hx)
  have HV := Lib.hid (fun x (hx : Bel w x) => hv.bel hx)
  have HRR := Lib.hid hr
  clear hbx hby hr
  obtain ⟨a, n, c, rfl, hs⟩ := hu.sl
  obtain ⟨a', n', c', rfl, hs'⟩ := hv.sl
  have hcap := hs.le; have hmax := hs.cap; have hcap' := hs'.le; have hmax' := hs'.cap
  unfold maxLen at hmax hmax'
  have HL := Lib.hid hs.len
  have HL' := Lib.hid hs'.len
  have hn : n ≤ 1000 := by rw [HL.out]; exact hx
  have hn' : n' ≤ 1000 := by rw [HL'.out]; exact hy
  clear hu hv
  have HS := Lib.hid hs
  have HS' := Lib.hid hs'
  clear hs hs'
  go_enter Try.func27, Try.ntmps27
  go_wp2
  go_loopw [7, 8] (fun o i wr => ∃ k : Nat, k ≤ n ∧ i = .int .i64 k ∧ Hid (Mem w wr [⟨o, 2, 1, (cutsL (xs.take k) []).length, celI.row (cutsL (xs.take k) [])⟩])) (fun _ i _ => n - (intOf i).toNat)
  case atStart => exact ⟨0, Nat.zero_le _, rfl, Lib.hid (mem_lit (mem_nil w) 2 1 [] 0 rfl (by unfold maxLen; omega))⟩
  case round =>
    obtain ⟨k, hk, rfl, hm⟩ := hrel
    obtain ⟨g, hg⟩ := ext_ex hm.out.bel
    subst hg
    by_cases hlt : k < n
    · obtain ⟨b, off, rfl, hb⟩ := HS.out.base hlt
      obtain ⟨x, y, hxk, hc0, hc1⟩ := HS.out.at2 hlt
      have hxb := HBX.out (x, y) (List.mem_of_getElem? hxk.out)
      dsimp only at hxb
      obtain ⟨x1, x2, x3, x4⟩ := hxb
      have HC := Lib.hid (cutsL_succ hxk.out [])
      have hcl : (cutsL (xs.take k) []).length ≤ 5000 := by
        have := cutsL_len (xs.take k) []
        rw [List.length_take] at this
        simp only [List.length_nil] at this
        omega
      have RO := Lib.hid (rd_of_row (C := celI) (hm.out.own 0 _ rfl))
      generalize cutsL (xs.take k) [] = cs at HC hcl RO hm
      have hpl := putL_len x cs
      clear hm
      have w1 : IntKind.i64.wrap (y + 1) = y + 1 := IntWalk.i64_in _ (by omega)
      have k0 : (0 : Int) ≤ (k : Int) := by omega
      have k1 : (k : Int) < (n : Int) := by omega
      go_wp2_with fail
      go_region_held3 (fun q => q.cell? ⟨b, off + k * 2, none⟩ = some (.int .i64 x) ∧ q.cell? ⟨b, off + k * 2 + 1, none⟩ = some (.int .i64 y)) (simp [go_sem, *]) (first | (go_at_call 33; refine args_two _ (by with_reducible rfl : _ = u7) ?_; refine Calls.mono (l00Put_c _ cs x (by omega) _ (RO.out.bel ?_)) ?_; (focus (repeat (first | with_reducible exact Bel.refl _ | with_reducible assumption | apply Bel.ext | apply Bel.alloc | apply Bel.drew | exact Bel.refl _))); rintro ee ww ⟨v1, g1, rfl, rfl, ho1⟩) | (go_at_call 33; refine Calls.mono (l00Put_c _ (putL cs x) (y + 1) (by omega) _ (Rd.bel (rd_of_row ho1) ?_)) ?_; (focus (repeat (first | with_reducible exact Bel.refl _ | with_reducible assumption | apply Bel.ext | apply Bel.alloc | apply Bel.drew | exact Bel.refl _))); rintro ee ww ⟨v2, g2, rfl, rfl, ho2⟩))
      go_wp2
      go_roundw
      case rel =>
        refine ⟨k + 1, by omega, by go_num, Lib.hid ?_⟩
        rw [HC.out]
        exact mem_of_own (by (repeat (first | with_reducible exact Bel.refl _ | with_reducible assumption | apply Bel.ext | apply Bel.alloc | apply Bel.drew | exact Bel.refl _ | refine Bel.set ?_ (by first | (simp; done) | (simp [go_sem]; done) | omega) _)) : Bel w _) (own_mono ho2 (show w.heap.size ≤ (ext (ext w g).drew g1).heap.size from (by (repeat (first | with_reducible exact Bel.refl _ | with_reducible assumption | apply Bel.ext | apply Bel.alloc | apply Bel.drew | exact Bel.refl _ | refine Bel.set ?_ (by first | (simp; done) | (simp [go_sem]; done) | omega) _)) : Bel w _).size))
      case measure => simp [intOf]; omega
    · obtain rfl : k = n := by omega
      have hM := hm.out
      rw [HL.out, List.take_of_length_le (Nat.le_refl _)] at hM
      have hc1 : (cutsL xs []).length ≤ 2000 := by
        have := cutsL_len xs []
        simp only [List.length_nil] at this
        omega
      generalize hcc : cutsL xs [] = c1 at hM hc1
      have HC1 := Lib.hid hcc
      have HM := Lib.hid hM
      clear hm hM hcc
      go_wp2
      go_loopw [7, 9] (fun o i wr => ∃ k : Nat, k ≤ n' ∧ i = .int .i64 k ∧ Hid (Mem w wr [⟨o, 2, 1, (cutsL (ys.take k) c1).length, celI.row (cutsL (ys.take k) c1)⟩])) (fun _ i _ => n' - (intOf i).toNat)
      case atStart => exact ⟨0, Nat.zero_le _, rfl, HM⟩
      case round =>
        clear HM
        obtain ⟨k, hk, rfl, hm⟩ := hrel
        obtain ⟨g, hg⟩ := ext_ex hm.out.bel
        subst hg
        by_cases hlt : k < n'
        · obtain ⟨b, off, rfl, hb⟩ := HS'.out.base hlt
          obtain ⟨x, y, hxk, hc0, hc1⟩ := HS'.out.at2 hlt
          have hxb := HBY.out (x, y) (List.mem_of_getElem? hxk.out)
          dsimp only at hxb
          obtain ⟨x1, x2, x3, x4⟩ := hxb
          have HC := Lib.hid (cutsL_succ hxk.out c1)
          have hcl : (cutsL (ys.take k) c1).length ≤ 5000 := by
            have := cutsL_len (ys.take k) c1
            rw [List.length_take] at this
            omega
          have RO := Lib.hid (rd_of_row (C := celI) (hm.out.own 0 _ rfl))
          generalize cutsL (ys.take k) c1 = cs at HC hcl RO hm
          have hpl := putL_len x cs
          clear hm
          have w1 : IntKind.i64.wrap (y + 1) = y + 1 := IntWalk.i64_in _ (by omega)
          have k0 : (0 : Int) ≤ (k : Int) := by omega
          have k1 : (k : Int) < (n' : Int) := by omega
          go_wp2_with fail
          go_region_held3 (fun q => q.cell? ⟨b, off + k * 2, none⟩ = some (.int .i64 x) ∧ q.cell? ⟨b, off + k * 2 + 1, none⟩ = some (.int .i64 y)) (simp [go_sem, *]) (first | (go_at_call 33; refine args_two _ (by with_reducible rfl : _ = u7) ?_; refine Calls.mono (l00Put_c _ cs x (by omega) _ (RO.out.bel ?_)) ?_; (focus (repeat (first | with_reducible exact Bel.refl _ | with_reducible assumption | apply Bel.ext | apply Bel.alloc | apply Bel.drew | exact Bel.refl _))); rintro ee ww ⟨v1, g1, rfl, rfl, ho1⟩) | (go_at_call 33; refine Calls.mono (l00Put_c _ (putL cs x) (y + 1) (by omega) _ (Rd.bel (rd_of_row ho1) ?_)) ?_; (focus (repeat (first | with_reducible exact Bel.refl _ | with_reducible assumption | apply Bel.ext | apply Bel.alloc | apply Bel.drew | exact Bel.refl _))); rintro ee ww ⟨v2, g2, rfl, rfl, ho2⟩))
          go_wp2
          go_roundw
          case rel =>
            refine ⟨k + 1, by omega, by go_num, Lib.hid ?_⟩
            rw [HC.out]
            exact mem_of_own (by (repeat (first | with_reducible exact Bel.refl _ | with_reducible assumption | apply Bel.ext | apply Bel.alloc | apply Bel.drew | exact Bel.refl _ | refine Bel.set ?_ (by first | (simp; done) | (simp [go_sem]; done) | omega) _)) : Bel w _) (own_mono ho2 (show w.heap.size ≤ (ext (ext w g).drew g1).heap.size from (by (repeat (first | with_reducible exact Bel.refl _ | with_reducible assumption | apply Bel.ext | apply Bel.alloc | apply Bel.drew | exact Bel.refl _ | refine Bel.set ?_ (by first | (simp; done) | (simp [go_sem]; done) | omega) _)) : Bel w _).size))
          case measure => simp [intOf]; omega

        · obtain rfl : k = n' := by omega
          have hM := hm.out
          rw [HL'.out, List.take_of_length_le (Nat.le_refl _)] at hM
          have hcy : cutsL ys c1 = cutsOf xs ys := by rw [cutsOf, HC1.out]
          rw [hcy] at hM
          clear hcy hm
          have hcl : (cutsOf xs ys).length ≤ 4000 := by
            have h1 := cutsL_len ys (cutsL xs [])
            have h2 := cutsL_len xs []
            simp only [List.length_nil] at h2
            unfold cutsOf; omega
          have hca := cutsOf_asc xs ys
          have hcb : ∀ z ∈ cutsOf xs ys, -100000001 ≤ z ∧ z ≤ 100000001 := fun z hz => by
            obtain ⟨p, hp, h⟩ := cutsOf_mem.1 hz
            have hpb : -100000000 ≤ p.1 ∧ p.1 ≤ 100000000 ∧ -100000000 ≤ p.2 ∧ p.2 ≤ 100000000 := hp.elim (HBX.out p) (HBY.out p)
            omega
          have HCA := Lib.hid (And.intro hca hcb)
          clear hca hcb
          have HSE : Hid (∀ (k : Nat) (c d : Int), (cutsOf xs ys)[k]? = some c → (cutsOf xs ys)[k + 1]? = some d → (segs (cutsOf xs ys))[k]? = some (c, d - 1)) := Lib.hid (fun k c d h1 h2 => segs_get h1 h2)
          have HEN := Lib.hid (fun k h => segT_end (r := r) (xs := xs) (ys := ys) (k := k) h)
          have HNO := Lib.hid (fun k s h => segT_no (r := r) (xs := xs) (ys := ys) (k := k) (s := s) h)
          have HYE := Lib.hid (fun k s h => segT_yes (r := r) (xs := xs) (ys := ys) (k := k) (s := s) h)
          have HBE := Lib.hid (fun k s l h => segT_before (r := r) (xs := xs) (ys := ys) (k := k) (s := s) (l := l) h)
          generalize cutsOf xs ys = C at hM hcl HCA HSE HEN HNO HYE HBE ⊢
          have ho7 := hM.own 0 _ rfl
          dsimp only at ho7
          obtain ⟨a7, c7, rfl, hc7, hm7⟩ := own_len ho7
          unfold maxLen at hm7
          clear ho7
          have hM1 := mem_lit hM 35 2 [] 0 rfl (by unfold maxLen; omega)
          simp only [List.cons_append, List.nil_append] at hM1
          have HM1 := Lib.hid hM1
          clear hM hM1
          go_wp2
          go_loopw [10, 11] (fun o i wr => ∃ k : Nat, k ≤ C.length ∧ i = .int .i64 k ∧ Hid (Mem w wr [⟨.slice a7 C.length c7, 2, 1, C.length, celI.row C⟩, ⟨o, 35, 2, (segT r xs ys k).length, cel2.row (segT r xs ys k)⟩])) (fun _ i _ => C.length - (intOf i).toNat)
          case atStart => exact ⟨0, Nat.zero_le _, rfl, Lib.hid (by rw [segT_zero]; exact HM1.out)⟩
          case round =>
            clear HM1
            obtain ⟨q, hq, rfl, hm⟩ := hrel
            by_cases hlt3 : q + 1 < C.length
            · obtain ⟨c, hcq⟩ : ∃ c, C[q]? = some c := ⟨C[q], by simp⟩
              obtain ⟨d, hdq⟩ : ∃ d, C[q + 1]? = some d := ⟨C[q + 1], by simp [hlt3]⟩
              have hcd : c < d := by
                have h1 := (List.getElem?_eq_some_iff.1 hcq).2
                have h2 := (List.getElem?_eq_some_iff.1 hdq).2
                have := (List.pairwise_iff_getElem.1 HCA.out.1) q (q + 1) (by omega) hlt3 (by omega)
                rw [h1, h2] at this; exact this
              have hcb := HCA.out.2 c (List.mem_of_getElem? hcq)
              have hdb := HCA.out.2 d (List.mem_of_getElem? hdq)
              have HSG := Lib.hid (HSE.out q c d hcq hdq)
              have HCQ := Lib.hid hcq
              have HDQ := Lib.hid hdq
              clear hcq hdq
              have hsl := segT_len r xs ys q
              have HX := Lib.hid (fun W hu => HA.out c W hu)
              have HY := Lib.hid (fun W hu => HA'.out c W hu)
              rw [inAt_eq] at HX HY
              have HRB := Lib.hid (show ruleAt r xs ys c = ruleB r (inAt xs c) (inAt ys c) from rfl)
              generalize inAt xs c = bx at HX HRB
              generalize inAt ys c = by_ at HY HRB
              obtain ⟨b7, cc7, hv7, hb7, hb7s, -, -⟩ := row_base (hm.out.own 0 _ rfl) (show 0 < C.length by omega)
              cases hv7
              have f1 := row_at1 (hm.out.own 0 _ rfl) HCQ.out
              have hb0 := hm.out.bel
              rcases hrb : ruleB r bx by_ with _ | _
              · have HN := Lib.hid (HNO.out q (c, d - 1) HSG.out (by rw [HRB.out]; exact hrb))
                have h1 := HRR.out
                rcases bx with _ | _ <;> rcases by_ with _ | _
                all_goals first
                  | (exfalso; subst h1; revert hrb; decide)
                  | (clear hrb
                     subst h1
                     go_wp2_with (first | (go_at_call 34; refine args_sl a ⟨_, _, by with_reducible rfl⟩ ?_; refine Calls.mono (mem_ret hm.out ?_ (HX.out _ (HU.out _ ?_))) ?_; (focus (repeat (first | with_reducible exact Bel.refl _ | with_reducible assumption | apply Bel.ext | apply Bel.alloc | apply Bel.drew | exact Bel.refl _))); (focus (repeat (first | with_reducible exact Bel.refl _ | with_reducible assumption | apply Bel.ext | apply Bel.alloc | apply Bel.drew | exact Bel.refl _))); rintro ee ww ⟨rfl, g1, rfl, hM1⟩; have f2 := row_at1 (hM1.own 0 _ rfl) HCQ.out; have HM1 := Lib.hid hM1; clear hM1; generalize ext w g1 = Y1 at HM1 f2 ⊢; have hb1 := HM1.out.bel) | (go_at_call 34; refine args_sl a' ⟨_, _, by with_reducible rfl⟩ ?_; refine Calls.mono (mem_ret HM1.out ?_ (HY.out _ (HV.out _ ?_))) ?_; (focus (repeat (first | with_reducible exact Bel.refl _ | with_reducible assumption | apply Bel.ext | apply Bel.alloc | apply Bel.drew | exact Bel.refl _))); (focus (repeat (first | with_reducible exact Bel.refl _ | with_reducible assumption | apply Bel.ext | apply Bel.alloc | apply Bel.drew | exact Bel.refl _))); rintro ee ww ⟨rfl, g2, rfl, hM2⟩; have HM2 := Lib.hid hM2; clear hM2; generalize ext w g2 = Y2 at HM2 ⊢))
                     go_roundw
                     case rel => exact ⟨q + 1, by omega, by go_num, Lib.hid (by rw [HN.out]; exact HM2.out)⟩
                     case measure => simp [intOf]; omega)
              · have HBF := Lib.hid (fun l hl => HBE.out q (c, d - 1) l HSG.out hl)
                have HN0 := Lib.hid (HYE.out q (c, d - 1) HSG.out (by rw [HRB.out]; exact hrb))
                have hm1 := hm.out
                clear hm
                generalize segT r xs ys q = o' at HBF HN0 hm1 hsl
                have hm := Lib.hid hm1
                clear hm1
                have ho1 := hm.out.own 1 _ rfl
                dsimp only at ho1
                obtain ⟨ao, co, rfl, hoc, hoc2⟩ := own_len ho1
                unfold maxLen at hoc2
                clear ho1
                generalize hml : o'.length = m at hm hoc hsl ⊢
                rcases snoc_cases o' with h0 | ⟨i, l, h0⟩
                · subst h0
                  obtain rfl : m = 0 := by rw [← hml]; rfl
                  have HN : Hid (segT r xs ys (q + 1) = [(c, d - 1)]) := Lib.hid (by rw [HN0.out, addL_nil])
                  clear HN0 hml
                  have h1 := HRR.out
                  rcases bx with _ | _ <;> rcases by_ with _ | _
                  all_goals first
                    | (exfalso; subst h1; revert hrb; decide)
                    | (clear hrb
                       subst h1
                       go_wp2_with (first | (go_at_call 34; refine args_sl a ⟨_, _, by with_reducible rfl⟩ ?_; refine Calls.mono (mem_ret hm.out ?_ (HX.out _ (HU.out _ ?_))) ?_; (focus (repeat (first | with_reducible exact Bel.refl _ | with_reducible assumption | apply Bel.ext | apply Bel.alloc | apply Bel.drew | exact Bel.refl _))); (focus (repeat (first | with_reducible exact Bel.refl _ | with_reducible assumption | apply Bel.ext | apply Bel.alloc | apply Bel.drew | exact Bel.refl _))); rintro ee ww ⟨rfl, g1, rfl, hM1⟩; have f2 := row_at1 (hM1.own 0 _ rfl) HCQ.out; have HM1 := Lib.hid hM1; clear hM1; generalize ext w g1 = Y1 at HM1 f2 ⊢; have hb1 := HM1.out.bel) | (go_at_call 34; refine args_sl a' ⟨_, _, by with_reducible rfl⟩ ?_; refine Calls.mono (mem_ret HM1.out ?_ (HY.out _ (HV.out _ ?_))) ?_; (focus (repeat (first | with_reducible exact Bel.refl _ | with_reducible assumption | apply Bel.ext | apply Bel.alloc | apply Bel.drew | exact Bel.refl _))); (focus (repeat (first | with_reducible exact Bel.refl _ | with_reducible assumption | apply Bel.ext | apply Bel.alloc | apply Bel.drew | exact Bel.refl _))); rintro ee ww ⟨rfl, g2, rfl, hM2⟩; have HM2 := Lib.hid hM2; clear hM2; generalize ext w g2 = Y2 at HM2 ⊢))
                       have e1 := row_at1 (HM2.out.own 0 _ rfl) HCQ.out
                       have e2 := row_at1 (HM2.out.own 0 _ rfl) HDQ.out
                       have hb7t := ((HM2.out.own 0 _ rfl).lt b7 rfl).2
                       have w1 : IntKind.i64.wrap ((q : Int) + 1) = (q : Int) + 1 := IntWalk.i64_in _ (by omega)
                       have w2 : IntKind.i64.wrap (d - 1) = d - 1 := IntWalk.i64_in _ (by omega)
                       have k0 : (0 : Int) ≤ (q : Int) := by omega
                       have k1 : (q : Int) < (C.length : Int) := by omega
                       have k2 : (0 : Int) ≤ (q : Int) + 1 := by omega
                       have k3 : (q : Int) + 1 < (C.length : Int) := by omega
                       have k4 : ((q : Int) + 1).toNat = q + 1 := by omega
                       have k5 : (q : Int).toNat = q := by omega
                       go_region
                       have e1 : Y2.drew.cell? ⟨b7, q, none⟩ = some (.int .i64 c) := e1
                       have e2 : Y2.drew.cell? ⟨b7, q + 1, none⟩ = some (.int .i64 d) := e2
                       have hb7t : b7 < Y2.drew.heap.size := hb7t
                       have HM3 := Lib.hid (mem_bel HM2.out ((Bel.refl Y2).drew))
                       generalize Y2.drew = Y3 at e1 e2 hb7t HM3 ⊢
                       go_wp2_with fail
                       go_region_held3 (fun x_ => x_.cell? ⟨b7, q, none⟩ = some (.int .i64 c) ∧ x_.cell? ⟨b7, q + 1, none⟩ = some (.int .i64 d)) (simp [go_sem, *]) (first | (refine step_append_mem (by rfl) (.tmp 145) (.tmp 157) 24 35 2 16 (by rfl) appWindow (by decide) w _ 1 _ _ _ rfl 1 [.int .i64 c, .int .i64 (d - 1)] (by rfl) _ (by rfl) (by rfl) (by intro u hu; simp at hu; rcases hu with rfl | rfl <;> rfl) (by intro j u hu; rcases j with _ | _ | _ | j <;> simp at hu <;> subst hu <;> simp [go_sem]) (mem_bel HM3.out ?_) (by omega) (by omega) ?_; (focus (repeat (first | with_reducible exact Bel.refl _ | with_reducible assumption | apply Bel.ext | apply Bel.alloc | apply Bel.drew | exact Bel.refl _))); intro v2 g2 hM4; have s1 := row_at1 (hM4.own 0 _ rfl) HCQ.out; have s2 := row_at1 (hM4.own 0 _ rfl) HDQ.out; have hM5 := hM4.bel; generalize ext w g2 = Y4 at hM4 s1 s2 hM5 ⊢))
                       go_wp2
                       go_roundw
                       case rel => exact ⟨q + 1, by omega, by go_num, Lib.hid (by rw [HN.out, Cel.row_one]; exact hM4)⟩
                       case measure => simp [intOf]; omega)
                · subst h0
                  obtain ⟨lx, ly⟩ := l
                  obtain rfl : m = i.length + 1 := by rw [← hml]; simp
                  clear hml
                  obtain ⟨bo, cc2, hv, hbo, hbos, -, -⟩ := row_base (hm.out.own 1 _ rfl) (show 0 < i.length + 1 by omega)
                  cases hv
                  have hlb := HBF.out (lx, ly) (by simp)
                  dsimp only at hlb
                  obtain ⟨l1, l2, z, hz, l3⟩ := hlb
                  have hzb := HCA.out.2 z hz
                  have l4 : -100000001 ≤ lx := by omega
                  clear hz hzb l3
                  by_cases hj : ly + 1 = c
                  · have hj2 : (ly + 1 == c) = true := by simpa using hj
                    have HN : Hid (segT r xs ys (q + 1) = i ++ [(lx, d - 1)]) := Lib.hid (by rw [HN0.out, addL_in (by dsimp only; omega)]; simp only [List.append_cancel_left_eq, List.cons.injEq, Prod.mk.injEq, true_and, and_true]; omega)
                    have HJ := Lib.hid hj
                    clear HN0 hj
                    have h1 := HRR.out
                    rcases bx with _ | _ <;> rcases by_ with _ | _
                    all_goals first
                      | (exfalso; subst h1; revert hrb; decide)
                      | (clear hrb
                         subst h1
                         go_wp2_with (first | (go_at_call 34; refine args_sl a ⟨_, _, by with_reducible rfl⟩ ?_; refine Calls.mono (mem_ret hm.out ?_ (HX.out _ (HU.out _ ?_))) ?_; (focus (repeat (first | with_reducible exact Bel.refl _ | with_reducible assumption | apply Bel.ext | apply Bel.alloc | apply Bel.drew | exact Bel.refl _))); (focus (repeat (first | with_reducible exact Bel.refl _ | with_reducible assumption | apply Bel.ext | apply Bel.alloc | apply Bel.drew | exact Bel.refl _))); rintro ee ww ⟨rfl, g1, rfl, hM1⟩; have f2 := row_at1 (hM1.own 0 _ rfl) HCQ.out; have HM1 := Lib.hid hM1; clear hM1; generalize ext w g1 = Y1 at HM1 f2 ⊢; have hb1 := HM1.out.bel) | (go_at_call 34; refine args_sl a' ⟨_, _, by with_reducible rfl⟩ ?_; refine Calls.mono (mem_ret HM1.out ?_ (HY.out _ (HV.out _ ?_))) ?_; (focus (repeat (first | with_reducible exact Bel.refl _ | with_reducible assumption | apply Bel.ext | apply Bel.alloc | apply Bel.drew | exact Bel.refl _))); (focus (repeat (first | with_reducible exact Bel.refl _ | with_reducible assumption | apply Bel.ext | apply Bel.alloc | apply Bel.drew | exact Bel.refl _))); rintro ee ww ⟨rfl, g2, rfl, hM2⟩; have HM2 := Lib.hid hM2; clear hM2; generalize ext w g2 = Y2 at HM2 ⊢))
                         have e1 := row_at1 (HM2.out.own 0 _ rfl) HCQ.out
                         have e2 := row_at1 (HM2.out.own 0 _ rfl) HDQ.out
                         have hb7t := ((HM2.out.own 0 _ rfl).lt b7 rfl).2
                         have ho2 := HM2.out.own 1 _ rfl
                         dsimp only at ho2
                         obtain ⟨o0, o1, of⟩ := row_at2 (k := i.length) (x := lx) (y := ly) (by simpa using ho2) (by simp)
                         have of0 := of (i.length * 2)
                         have of1 := of (i.length * 2 + 1)
                         have hbot := (ho2.lt bo rfl).2
                         clear of ho2
                         have m0 : (0 : Int) ≤ (i.length : Int) := by omega
                         have m1 : (i.length : Int) < (i.length : Int) + 1 := by omega
                         have m2 : IntKind.i64.wrap (i.length : Int) = (i.length : Int) := IntWalk.i64_in _ (by omega)
                         have m3 : IntKind.i64.wrap (ly + 1) = ly + 1 := IntWalk.i64_in _ (by omega)
                         have w1 : IntKind.i64.wrap ((q : Int) + 1) = (q : Int) + 1 := IntWalk.i64_in _ (by omega)
                         have w2 : IntKind.i64.wrap (d - 1) = d - 1 := IntWalk.i64_in _ (by omega)
                         have k0 : (0 : Int) ≤ (q : Int) := by omega
                         have k1 : (q : Int) < (C.length : Int) := by omega
                         have k2 : (0 : Int) ≤ (q : Int) + 1 := by omega
                         have k3 : (q : Int) + 1 < (C.length : Int) := by omega
                         have k4 : ((q : Int) + 1).toNat = q + 1 := by omega
                         have k5 : (q : Int).toNat = q := by omega
                         go_region
                         have e2 : Y2.drew.cell? ⟨b7, q + 1, none⟩ = some (.int .i64 d) := e2
                         have hb7t : b7 < Y2.drew.heap.size := hb7t
                         have o0 : Y2.drew.cell? ⟨bo, i.length * 2, none⟩ = some (.int .i64 lx) := o0
                         have o1 : Y2.drew.cell? ⟨bo, i.length * 2 + 1, none⟩ = some (.int .i64 ly) := o1
                         have of0 : Y2.drew.frozen? ⟨bo, i.length * 2, none⟩ = false := of0
                         have of1 : Y2.drew.frozen? ⟨bo, i.length * 2 + 1, none⟩ = false := of1
                         have hbot : bo < Y2.drew.heap.size := hbot
                         have HM3 := Lib.hid (mem_bel HM2.out ((Bel.refl Y2).drew))
                         clear e1
                         generalize Y2.drew = Y3 at e2 hb7t o0 o1 of0 of1 hbot HM3 ⊢
                         go_wp2
                         have hS := mem_bel (mem_store (mem_store HM3.out 1 rfl (i.length * 2) (.int .i64 lx)) 1 rfl (i.length * 2 + 1) (.int .i64 (d - 1))) ((Bel.refl _).alloc (.cells #[.int .i64 lx, .int .i64 (d - 1)] 35))
                         simp only [List.set_cons_zero, List.set_cons_succ] at hS
                         rw [row_set_both i (lx, ly) (d - 1)] at hS
                         go_roundw
                         case rel => exact ⟨q + 1, by omega, by go_num, Lib.hid (by rw [HN.out, List.length_append]; exact hS)⟩
                         case measure => simp [intOf]; omega)
                  · have hj2 : (ly + 1 == c) = false := by simpa using hj
                    have HN : Hid (segT r xs ys (q + 1) = i ++ [(lx, ly)] ++ [(c, d - 1)]) := Lib.hid (by rw [HN0.out, addL_out (by dsimp only; omega)])
                    clear HN0
                    have h1 := HRR.out
                    rcases bx with _ | _ <;> rcases by_ with _ | _
                    all_goals first
                      | (exfalso; subst h1; revert hrb; decide)
                      | (clear hrb
                         subst h1
                         go_wp2_with (first | (go_at_call 34; refine args_sl a ⟨_, _, by with_reducible rfl⟩ ?_; refine Calls.mono (mem_ret hm.out ?_ (HX.out _ (HU.out _ ?_))) ?_; (focus (repeat (first | with_reducible exact Bel.refl _ | with_reducible assumption | apply Bel.ext | apply Bel.alloc | apply Bel.drew | exact Bel.refl _))); (focus (repeat (first | with_reducible exact Bel.refl _ | with_reducible assumption | apply Bel.ext | apply Bel.alloc | apply Bel.drew | exact Bel.refl _))); rintro ee ww ⟨rfl, g1, rfl, hM1⟩; have f2 := row_at1 (hM1.own 0 _ rfl) HCQ.out; have HM1 := Lib.hid hM1; clear hM1; generalize ext w g1 = Y1 at HM1 f2 ⊢; have hb1 := HM1.out.bel) | (go_at_call 34; refine args_sl a' ⟨_, _, by with_reducible rfl⟩ ?_; refine Calls.mono (mem_ret HM1.out ?_ (HY.out _ (HV.out _ ?_))) ?_; (focus (repeat (first | with_reducible exact Bel.refl _ | with_reducible assumption | apply Bel.ext | apply Bel.alloc | apply Bel.drew | exact Bel.refl _))); (focus (repeat (first | with_reducible exact Bel.refl _ | with_reducible assumption | apply Bel.ext | apply Bel.alloc | apply Bel.drew | exact Bel.refl _))); rintro ee ww ⟨rfl, g2, rfl, hM2⟩; have HM2 := Lib.hid hM2; clear hM2; generalize ext w g2 = Y2 at HM2 ⊢))
                         have e1 := row_at1 (HM2.out.own 0 _ rfl) HCQ.out
                         have e2 := row_at1 (HM2.out.own 0 _ rfl) HDQ.out
                         have hb7t := ((HM2.out.own 0 _ rfl).lt b7 rfl).2
                         have ho2 := HM2.out.own 1 _ rfl
                         dsimp only at ho2
                         obtain ⟨o0, o1, of⟩ := row_at2 (k := i.length) (x := lx) (y := ly) (by simpa using ho2) (by simp)
                         have of0 := of (i.length * 2)
                         have of1 := of (i.length * 2 + 1)
                         have hbot := (ho2.lt bo rfl).2
                         clear of ho2
                         have m0 : (0 : Int) ≤ (i.length : Int) := by omega
                         have m1 : (i.length : Int) < (i.length : Int) + 1 := by omega
                         have m2 : IntKind.i64.wrap (i.length : Int) = (i.length : Int) := IntWalk.i64_in _ (by omega)
                         have m3 : IntKind.i64.wrap (ly + 1) = ly + 1 := IntWalk.i64_in _ (by omega)
                         have w1 : IntKind.i64.wrap ((q : Int) + 1) = (q : Int) + 1 := IntWalk.i64_in _ (by omega)
                         have w2 : IntKind.i64.wrap (d - 1) = d - 1 := IntWalk.i64_in _ (by omega)
                         have k0 : (0 : Int) ≤ (q : Int) := by omega
                         have k1 : (q : Int) < (C.length : Int) := by omega
                         have k2 : (0 : Int) ≤ (q : Int) + 1 := by omega
                         have k3 : (q : Int) + 1 < (C.length : Int) := by omega
                         have k4 : ((q : Int) + 1).toNat = q + 1 := by omega
                         have k5 : (q : Int).toNat = q := by omega
                         go_region
                         have e1 : Y2.drew.cell? ⟨b7, q, none⟩ = some (.int .i64 c) := e1
                         have e2 : Y2.drew.cell? ⟨b7, q + 1, none⟩ = some (.int .i64 d) := e2
                         have hb7t : b7 < Y2.drew.heap.size := hb7t
                         have HM3 := Lib.hid (mem_bel HM2.out ((Bel.refl Y2).drew))
                         clear o0 o1 of0 of1 hbot
                         generalize Y2.drew = Y3 at e1 e2 hb7t HM3 ⊢
                         go_wp2_with fail
                         go_region_held3 (fun x_ => x_.cell? ⟨b7, q, none⟩ = some (.int .i64 c) ∧ x_.cell? ⟨b7, q + 1, none⟩ = some (.int .i64 d)) (simp [go_sem, *]) (first | (refine step_append_mem (by rfl) (.tmp 145) (.tmp 157) 24 35 2 16 (by rfl) appWindow (by decide) w _ 1 _ _ _ rfl 1 [.int .i64 c, .int .i64 (d - 1)] (by rfl) _ (by rfl) (by rfl) (by intro u hu; simp at hu; rcases hu with rfl | rfl <;> rfl) (by intro j u hu; rcases j with _ | _ | _ | j <;> simp at hu <;> subst hu <;> simp [go_sem]) (mem_bel HM3.out ?_) (by omega) (by omega) ?_; (focus (repeat (first | with_reducible exact Bel.refl _ | with_reducible assumption | apply Bel.ext | apply Bel.alloc | apply Bel.drew | exact Bel.refl _))); intro v2 g2 hM4; have s1 := row_at1 (hM4.own 0 _ rfl) HCQ.out; have s2 := row_at1 (hM4.own 0 _ rfl) HDQ.out; have hM5 := hM4.bel; generalize ext w g2 = Y4 at hM4 s1 s2 hM5 ⊢))
                         go_wp2
                         go_roundw
                         case rel => exact ⟨q + 1, by omega, by go_num, Lib.hid (by rw [HN.out, Cel.row_append, Cel.row_one, List.length_append, List.length_append]; exact hM4)⟩
                         case measure => simp [intOf]; omega)
            · have hM := hm.out
              rw [HEN.out q (by omega)] at hM
              have hown := hM.own 1 _ rfl
              have hbb := hM.bel
              have HO := Lib.hid hown
              clear hM hm hown
              go_wp2
              rw [← HR.out]
              exact RetRow.mk' rfl hbb HO.out
end Go.Proofs.Ytdneffnnpjgnbab
