/- Bins that are shown in each window; the numbers of bits: what the program returns. -/
import Derived.Test.YtpfemaonipcbgaaShown
import Derived.Test.YtpfemaonipcbgaaWhole
import Derived.Shelf.Abstract
namespace Go.Proofs.Ytpfemaonipcbgaa
open Go.RowKit

def celU : Cel Nat := ⟨1, fun x => [.int .u64 (x : Int)], fun _ => rfl, by decide, fun _ u h => by simp at h; subst h; rfl⟩
def codeB (e p n : Int) (xs : List (Int × Int)) : Int := if fitsI e p xs (inB n 1 50) ≠ 0 then fitsI e p xs (inB n 1 50) else if p < n then 6 else 0
def allF (e p n : Int) (xs : List (Int × Int)) (k : Nat) : Bool := xs.any fun w => shB e p n w k
def eachL (e p n : Int) (xs : List (Int × Int)) : List Nat := xs.map fun w => maskOf (shB e p n w) n.toNat
def eachI (e p n : Int) (xs : List (Int × Int)) : List Nat × Int × Int := if codeB e p n xs ≠ 0 then ([], 0, codeB e p n xs) else (eachL e p n xs, ((maskOf (allF e p n xs) n.toNat : Nat) : Int), 0)
theorem fitsI_ok {e p : Int} {xs : List (Int × Int)} {r : Bool} (h : fitsI e p xs r = 0) : ephB e p = true ∧ windowsB xs = true ∧ r = true := by
  unfold fitsI at h
  rcases h1 : ephB e p with _ | _ <;> rcases h2 : windowsB xs with _ | _ <;> cases r <;> simp [h1, h2] at h ⊢
theorem codeB_ok {e p n : Int} {xs : List (Int × Int)} (h : codeB e p n xs = 0) : ephB e p = true ∧ windowsB xs = true ∧ 1 ≤ n ∧ n ≤ 50 ∧ n ≤ p := by
  unfold codeB at h
  by_cases h1 : fitsI e p xs (inB n 1 50) ≠ 0
  · rw [if_pos h1] at h; exact absurd h h1
  · rw [if_neg h1] at h
    obtain ⟨a, b, c⟩ := fitsI_ok (Classical.not_not.1 h1)
    obtain ⟨c1, c2⟩ := inB_iff.1 c
    split at h
    · omega
    · exact ⟨a, b, c1, c2, by omega⟩
theorem eachL_take {e p n : Int} {xs : List (Int × Int)} {k : Nat} {x : Int × Int} (hx : xs[k]? = some x) : eachL e p n (xs.take (k + 1)) = eachL e p n (xs.take k) ++ [maskOf (shB e p n x) n.toNat] := by
  rw [take_snoc_of hx]; simp [eachL]
theorem allF_take {e p n : Int} {xs : List (Int × Int)} {k : Nat} {x : Int × Int} (hx : xs[k]? = some x) : allF e p n (xs.take (k + 1)) = fun i => allF e p n (xs.take k) i || shB e p n x i := by
  funext i
  rw [take_snoc_of hx]; simp [allF]
theorem appU : AppF Try.prog 64 65 1 8 := appF_of (z := .int .u64 0) Try.underlying64 (by kernel_rfl) rfl
set_option maxHeartbeats 4000000 in
theorem shownEach_c (e p n : Int) (u : Value) (xs : List (Int × Int)) (w : World) (hu : Rd cel2 w u xs) :
    Calls Try.prog 43 #[.agg #[.int .i64 e, .int .i64 p], u, .int .i64 n] w (RetRow 65 1 (fun v => .tuple #[v, .int .u64 (eachI e p n xs).2.1, .int .i64 (eachI e p n xs).2.2]) (eachI e p n xs).1.length (celU.row (eachI e p n xs).1) w) := by
  generalize hR : RetRow _ _ _ _ _ w = R
  have HR := Lib.hid hR
  clear hR
  have hu' := hu
  obtain ⟨aa, N, cc, rfl, hs⟩ := hu'.sl
  have hcap := hs.le; have hmax := hs.cap
  unfold maxLen at hmax
  have HL := Lib.hid hs.len
  have VI := Lib.hid (fun w => in_c n 1 50 w)
  have VF := Lib.hid (fun w hu => fits_c e p (.slice aa N cc) xs (inB n 1 50) w hu)
  have hok := @fitsI_ok e p xs (inB n 1 50)
  unfold eachI codeB at HR
  generalize fitsI e p xs (inB n 1 50) = F at *
  obtain ⟨r0, hr0⟩ : ∃ r0, inB n 1 50 = r0 := ⟨_, rfl⟩
  rw [hr0] at VI VF hok
  have HN := Lib.hid hr0
  clear hr0
  by_cases hF : F = 0
  · subst hF
    obtain ⟨h1, h2, h3⟩ := hok rfl
    subst h3
    clear hok
    obtain ⟨e1, e2, p1, p2⟩ := ephB_iff.1 h1
    have HE := Lib.hid h1
    have hget : ∀ (k : Nat) (x : Int × Int), xs[k]? = some x → 0 ≤ x.1 ∧ x.1 ≤ 10000000 ∧ 0 ≤ x.2 ∧ x.2 ≤ 10000000 ∧ x.1 ≤ x.2 := fun k x hx => windowsB_get h2 hx
    have HG := Lib.hid hget
    have hlen := windowsB_len h2
    rw [← HL.out] at hlen
    clear h1 h2 hget
    simp only [ne_eq, not_true_eq_false, if_false] at HR
    by_cases hp : p < n
    · simp only [hp, if_true] at HR
      go_enter Try.func43, Try.ntmps43
      go_wp2_with fail
      go_region_held3 (fun q => q.cell? ⟨w.heap.size, 0, none⟩ = some (.int .i64 e) ∧ q.cell? ⟨w.heap.size, 1, none⟩ = some (.int .i64 p)) (simp [go_sem, *]) (first | (go_at_call 59; refine Calls.mono (VI.out _) ?_; rintro ee ww ⟨rfl, rfl⟩) | (go_at_call 35; refine Calls.mono (VF.out _ (hu.bel ?_)) ?_; (focus (repeat (first | with_reducible exact Bel.refl _ | with_reducible assumption | apply Bel.ext | apply Bel.alloc | apply Bel.drew | exact Bel.refl _))); rintro ee ww ⟨rfl, _, rfl⟩))
      all_goals
        go_wp2
        rw [← HR.out]
        refine bodyPost_ret (v := .tuple #[.slice none 0 0, .int .u64 0, .int .i64 6]) (by simp (maxDischargeDepth := 8) [results, Try.results43, go_sem]) rfl ?_
        exact RetRow.mk' rfl (by (repeat (first | with_reducible exact Bel.refl _ | with_reducible assumption | apply Bel.ext | apply Bel.alloc | apply Bel.drew | exact Bel.refl _ | refine Bel.set ?_ (by first | (simp; done) | (simp [go_sem]; done) | omega) _)) : Bel _ _) (World.ownsRow_nil _ _ _ _)
    · simp only [hp, if_false, not_true_eq_false] at HR
      obtain ⟨n1, n2⟩ := inB_iff.1 HN.out
      have hn50 : n.toNat ≤ 64 := by omega
      go_enter Try.func43, Try.ntmps43
      go_wp2_with fail
      have hwA : Bel w (w.alloc (Obj.cells #[.int .i64 e, .int .i64 p] 33)) := by (repeat (first | with_reducible exact Bel.refl _ | with_reducible assumption | apply Bel.ext | apply Bel.alloc | apply Bel.drew | exact Bel.refl _ | refine Bel.set ?_ (by first | (simp; done) | (simp [go_sem]; done) | omega) _))
      have hc0 : (w.alloc (Obj.cells #[.int .i64 e, .int .i64 p] 33)).cell? ⟨w.heap.size, 0, none⟩ = some (.int .i64 e) := by simp [go_sem]
      have hc1 : (w.alloc (Obj.cells #[.int .i64 e, .int .i64 p] 33)).cell? ⟨w.heap.size, 1, none⟩ = some (.int .i64 p) := by simp [go_sem]
      have hz0 : w.heap.size < (w.alloc (Obj.cells #[.int .i64 e, .int .i64 p] 33)).heap.size := by first | (simp; done) | (simp; omega)
      generalize (w.alloc (Obj.cells #[.int .i64 e, .int .i64 p] 33)) = A at *
      have hM := mem_nil A
      have hsA := hs.bel hwA
      have huA := hu.bel hwA
      go_region_held3 (fun q => q.cell? ⟨w.heap.size, 0, none⟩ = some (.int .i64 e) ∧ q.cell? ⟨w.heap.size, 1, none⟩ = some (.int .i64 p)) (simp [go_sem, *]) (first | (go_at_call 59; refine Calls.mono (VI.out _) ?_; rintro ee ww ⟨rfl, rfl⟩) | (go_at_call 35; refine Calls.mono (VF.out _ (huA.bel ?_)) ?_; (focus (repeat (first | with_reducible exact Bel.refl _ | with_reducible assumption | apply Bel.ext | apply Bel.alloc | apply Bel.drew | exact Bel.refl _))); rintro ee ww ⟨rfl, _, rfl⟩))
      all_goals
        go_wp2
        go_loopw [10, 11, 30] (fun o a i wr => ∃ k : Nat, k ≤ N ∧ i = .int .i64 k ∧ a = .int .u64 ((maskOf (allF e p n (xs.take k)) n.toNat : Nat) : Int) ∧ Bel A wr ∧ Hid (wr.ownsRow A.heap.size 65 1 o k (celU.row (eachL e p n (xs.take k))))) (fun _ _ i _ => N - (intOf i).toNat)
        case atStart => exact ⟨0, by omega, by go_num, by simp only [List.take_zero]; rw [show allF e p n [] = fun _ => false from rfl, maskOf_none]; rfl, by (repeat (first | with_reducible exact Bel.refl _ | with_reducible assumption | apply Bel.ext | apply Bel.alloc | apply Bel.drew | exact Bel.refl _ | refine Bel.set ?_ (by first | (simp; done) | (simp [go_sem]; done) | omega) _)), Lib.hid (by refine own_empty _ _ _ _ ?_; exact bel_size (by (repeat (first | with_reducible exact Bel.refl _ | with_reducible assumption | apply Bel.ext | apply Bel.alloc | apply Bel.drew | exact Bel.refl _ | refine Bel.set ?_ (by first | (simp; done) | (simp [go_sem]; done) | omega) _))))⟩
        case round =>
          obtain ⟨k, hk, rfl, rfl, hbel, hown⟩ := hrel
          obtain ⟨g, rfl⟩ := ext_ex hbel
          by_cases hlt : k < N
          · obtain ⟨bb, off, rfl, hb⟩ := hsA.base hlt
            obtain ⟨x, y, hx, hd0, hd1⟩ := hsA.at2 hlt
            obtain ⟨x1, x2, y1, y2, xy⟩ := HG.out k _ hx.out
            dsimp only at x1 x2 y1 y2 xy
            have HT := Lib.hid (eachL_take (e := e) (p := p) (n := n) hx.out)
            have HA := Lib.hid (allF_take (e := e) (p := p) (n := n) hx.out)
            have HS := Lib.hid (fun w => shown_c e p x y n HE.out x1 x2 y1 y2 n1 n2 (by omega) xy w)
            have HO := Lib.hid (show bits .or .u64 ((maskOf (allF e p n (xs.take k)) n.toNat : Nat) : Int) ((maskOf (shB e p n (x, y)) n.toNat : Nat) : Int) = ((maskOf (allF e p n (xs.take (k + 1))) n.toNat : Nat) : Int) from by
              rw [bits_or_u (maskOf_lt64 _ hn50) (maskOf_lt64 _ hn50), maskOf_or, HA.out])
            generalize maskOf (allF e p n (xs.take k)) n.toNat = M0 at *
            generalize maskOf (shB e p n (x, y)) n.toNat = M1 at *
            go_wp2_with (first | (at_builtin; refine wpList_append_new rfl (.tmp 38) (.tmp 40) 64 65 1 8 rfl appU (by decide) A _ _ _ 1 [.int .u64 (M1 : Int)] rfl (by first | with_reducible rfl | (simp [go_sem]; done)) rfl (by intro u hu; simp at hu; first | (subst hu; rfl) | (rcases hu with rfl | rfl <;> rfl) | (rcases hu with rfl | rfl | rfl <;> rfl)) (own_bel hown.out ?_) ?_ (by omega) (by omega) ?_; (focus (repeat (first | with_reducible exact Bel.refl _ | with_reducible assumption | apply Bel.ext | apply Bel.alloc | apply Bel.drew | exact Bel.refl _))); (focus (repeat (first | with_reducible exact Bel.refl _ | with_reducible assumption | apply Bel.ext | apply Bel.alloc | apply Bel.drew | exact Bel.refl _))); intro v2 g2 hown2 hgr2) | (go_at_call 62; refine Calls.mono (HS.out _) ?_; rintro ee ww ⟨rfl, _, rfl⟩))
            go_roundw
            case rel =>
              refine ⟨k + 1, by omega, by go_num, by rw [HO.out], by (repeat (first | with_reducible exact Bel.refl _ | with_reducible assumption | apply Bel.ext | apply Bel.alloc | apply Bel.drew | exact Bel.refl _ | refine Bel.set ?_ (by first | (simp; done) | (simp [go_sem]; done) | omega) _)), Lib.hid ?_⟩
              rw [HT.out, Cel.row_append, Cel.row_one]; exact hown2
            case measure => simp [intOf]; omega
          · have hk' : k = N := by omega
            subst hk'
            have hO := hown.out
            rw [List.take_of_length_le (by rw [HL.out]; exact Nat.le_refl _), show k = (eachL e p n xs).length from by rw [HL.out]; simp [eachL]] at hO
            have HO := Lib.hid hO
            clear hO hown
            rw [List.take_of_length_le (by rw [HL.out]; exact Nat.le_refl _)]
            obtain ⟨oa, oc, hov, _, _⟩ := own_len HO.out
            subst hov
            go_wp2
            rw [← HR.out]
            refine bodyPost_ret (v := .tuple #[.slice oa (eachL e p n xs).length oc, .int .u64 ((maskOf (allF e p n xs) n.toNat : Nat) : Int), .int .i64 0]) (by simp (maxDischargeDepth := 8) [results, Try.results43, go_sem]) rfl ?_
            refine RetRow.mk' rfl ?_ (own_mono (own_bel HO.out ?_) hwA.size)
            · exact Below.trans hwA (Below.mono (by (repeat (first | with_reducible exact Bel.refl _ | with_reducible assumption | apply Bel.ext | apply Bel.alloc | apply Bel.drew | exact Bel.refl _ | refine Bel.set ?_ (by first | (simp; done) | (simp [go_sem]; done) | omega) _)) : Bel A _) hwA.size)
            · (repeat (first | with_reducible exact Bel.refl _ | with_reducible assumption | apply Bel.ext | apply Bel.alloc | apply Bel.drew | exact Bel.refl _ | refine Bel.set ?_ (by first | (simp; done) | (simp [go_sem]; done) | omega) _))
  · clear hok
    simp only [ne_eq, hF, not_false_eq_true, if_true] at HR
    have hF' : (F != 0) = true := by simp [hF]
    clear hF
    go_enter Try.func43, Try.ntmps43
    go_wp2_with fail
    go_region_held3 (fun q => q.cell? ⟨w.heap.size, 0, none⟩ = some (.int .i64 e) ∧ q.cell? ⟨w.heap.size, 1, none⟩ = some (.int .i64 p)) (simp [go_sem, *]) (first | (go_at_call 59; refine Calls.mono (VI.out _) ?_; rintro ee ww ⟨rfl, rfl⟩) | (go_at_call 35; refine Calls.mono (VF.out _ (hu.bel ?_)) ?_; (focus (repeat (first | with_reducible exact Bel.refl _ | with_reducible assumption | apply Bel.ext | apply Bel.alloc | apply Bel.drew | exact Bel.refl _))); rintro ee ww ⟨rfl, _, rfl⟩))
    all_goals
      go_wp2
      rw [← HR.out]
      refine bodyPost_ret (v := .tuple #[.slice none 0 0, .int .u64 0, .int .i64 F]) (by simp (maxDischargeDepth := 8) [results, Try.results43, go_sem]) rfl ?_
      exact RetRow.mk' rfl (by (repeat (first | with_reducible exact Bel.refl _ | with_reducible assumption | apply Bel.ext | apply Bel.alloc | apply Bel.drew | exact Bel.refl _ | refine Bel.set ?_ (by first | (simp; done) | (simp [go_sem]; done) | omega) _)) : Bel _ _) (World.ownsRow_nil _ _ _ _)
end Go.Proofs.Ytpfemaonipcbgaa
