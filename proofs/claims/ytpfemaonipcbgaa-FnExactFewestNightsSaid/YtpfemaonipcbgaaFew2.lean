/- The fewest windows that show all bins: what the reference returns. -/
import Derived.Test.YtpfemaonipcbgaaFew
import Derived.Test.YtpfemaonipcbgaaPick
namespace Go.Proofs.Ytpfemaonipcbgaa
open Go.RowKit

/-- the first list of n, n + 1, .. sets; d: how many sizes are tried -/
def firstS (due : Nat) (sets : List Nat) : Nat → Nat → Option (List Int)
  | 0, _ => none
  | d + 1, n => match comb due n 0 0 sets with
    | some l => some l
    | none => firstS due sets d (n + 1)
theorem firstS_hit {due : Nat} {sets : List Nat} {d n : Nat} {l : List Int} (h : comb due n 0 0 sets = some l) : firstS due sets (d + 1) n = some l := by simp [firstS, h]
theorem firstS_miss {due : Nat} {sets : List Nat} {d n : Nat} (h : comb due n 0 0 sets = none) : firstS due sets (d + 1) n = firstS due sets d (n + 1) := by simp [firstS, h]
theorem firstC_S (due : Nat) (sets : List Nat) : ∀ d n, firstC due sets d n = (firstS due sets (d + 1) n).getD []
  | 0, n => by
    unfold firstC firstS
    cases comb due n 0 0 sets <;> rfl
  | d + 1, n => by
    rw [firstC, firstS]
    cases h : comb due n 0 0 sets with
    | none => exact firstC_S due sets d (n + 1)
    | some l => rfl
theorem firstS_some (due : Nat) (sets : List Nat) : ∀ d n, (comb due (n + d) 0 0 sets).isSome = true → (firstS due sets (d + 1) n).isSome = true
  | 0, n, h => by
    obtain ⟨l, hl⟩ := Option.isSome_iff_exists.1 h
    rw [Nat.add_zero] at hl
    rw [firstS_hit hl]; rfl
  | d + 1, n, h => by
    rw [firstS]
    cases hc : comb due n 0 0 sets with
    | none => exact firstS_some due sets d (n + 1) (by rw [show n + 1 + d = n + (d + 1) by omega]; exact h)
    | some l => rfl
theorem firstS_none (due : Nat) (sets : List Nat) (h : ∀ n, comb due n 0 0 sets = none) : ∀ d n, firstS due sets d n = none
  | 0, _ => rfl
  | d + 1, n => by rw [firstS_miss (h n), firstS_none due sets h d (n + 1)]
/-- the program's way and the reference's -/
theorem fewI_S (e p n : Int) (xs : List (Int × Int)) (hc : codeB e p n xs = 0) (h12 : ¬ 12 < xs.length) :
    fewI e p n xs = match firstS (2 ^ n.toNat - 1) (eachL e p n xs) (xs.length + 1) 0 with | some l => (l, 0) | none => ([], 3) := by
  obtain ⟨-, -, n1, n2, -⟩ := codeB_ok hc
  have hT : 2 ^ n.toNat - 1 ≠ 0 := by
    have : 2 ^ 1 ≤ 2 ^ n.toNat := Nat.pow_le_pow_right (by omega) (by omega)
    omega
  have hO := orAll_masks e p n xs
  have hl : (eachL e p n xs).length = xs.length := by simp [eachL]
  have h0 : comb (2 ^ n.toNat - 1) 0 0 0 (eachL e p n xs) = none := by
    rw [comb_zero]
    exact if_neg (by simp; omega)
  unfold fewI
  rw [if_neg (by simp [hc]), if_neg h12, firstS_miss h0]
  by_cases hA : maskOf (allF e p n xs) n.toNat = 2 ^ n.toNat - 1
  · rw [if_neg (by simp [hA])]
    have hW := comb_whole (2 ^ n.toNat - 1) (eachL e p n xs) 0 0 (by rw [hO, hA]; simp)
    rw [hl] at hW
    have h1 : 1 ≤ xs.length := by
      rcases Nat.eq_zero_or_pos xs.length with c | c
      · rw [List.eq_nil_of_length_eq_zero (by rw [hl]; exact c : (eachL e p n xs).length = 0)] at hO
        rw [hA] at hO
        exact absurd hO.symm hT
      · exact c
    have hS := firstS_some (2 ^ n.toNat - 1) (eachL e p n xs) (xs.length - 1) 1 (by rw [show 1 + (xs.length - 1) = xs.length by omega]; exact hW)
    rw [show xs.length - 1 + 1 = xs.length by omega] at hS
    obtain ⟨l, hl2⟩ := Option.isSome_iff_exists.1 hS
    rw [firstC_S, show xs.length - 1 + 1 = xs.length by omega, hl2]; rfl
  · rw [if_pos hA]
    rw [firstS_none _ _ fun m => ?_]
    cases hm : comb (2 ^ n.toNat - 1) m 0 0 (eachL e p n xs) with
    | none => rfl
    | some l =>
      exfalso
      apply hA
      rw [← maskOf_all, maskOf_inj]
      intro i hi
      have := comb_sub hm i (by rw [Nat.testBit_two_pow_sub_one]; simpa using hi)
      rw [hO, Nat.zero_or, maskOf_test] at this
      simp at this
      exact this.2
set_option maxHeartbeats 8000000 in
theorem sFewestNights_c (e p n : Int) (u : Value) (xs : List (Int × Int)) (w : World) (hu : Rd cel2 w u xs) :
    Calls Try.prog 24 #[.agg #[.int .i64 e, .int .i64 p], u, .int .i64 n] w (RetRow 2 1 (fun v => .tuple #[v, .int .i64 (fewI e p n xs).2]) (fewI e p n xs).1.length (celI.row (fewI e p n xs).1) w) := by
  generalize hR : RetRow _ _ _ _ _ w = R
  have HR := Lib.hid hR
  clear hR
  have HS := Lib.hid (fun w hu => l16Bins_c e p n u xs w hu)
  have hok := @codeB_ok e p n xs
  have HFS := Lib.hid (fewI_S e p n xs)
  obtain ⟨aa, M, cc, rfl, hs⟩ := hu.sl
  have hcap := hs.le; have hmax := hs.cap
  unfold maxLen at hmax
  have HL := Lib.hid hs.len
  by_cases hc : codeB e p n xs = 0
  rotate_left
  · clear hok HFS
    have HF := Lib.hid (show fewI e p n xs = ([], codeB e p n xs) by unfold fewI; rw [if_pos hc])
    rw [HF.out] at HR
    have hc' : (codeB e p n xs != 0) = true := by simp [hc]
    have hc2 : (codeB e p n xs == 0) = false := by simp [hc]
    clear HF
    generalize codeB e p n xs = c at *
    clear hc
    go_enter Try.func24, Try.ntmps24
    go_wp2_with (first | (go_at_call 40; refine Calls.mono (HS.out _ (hu.bel ?_)) ?_; (focus (repeat (first | with_reducible exact Bel.refl _ | with_reducible assumption | apply Bel.ext | apply Bel.alloc | apply Bel.drew | exact Bel.refl _))); rintro ee ww ⟨rfl, _, rfl⟩))
    rw [← HR.out]
    exact RetRow.mk' rfl (by (repeat (first | with_reducible exact Bel.refl _ | with_reducible assumption | apply Bel.ext | apply Bel.alloc | apply Bel.drew | exact Bel.refl _ | refine Bel.set ?_ (by first | (simp; done) | (simp [go_sem]; done) | omega) _)) : Bel _ _) (World.ownsRow_nil _ _ _ _)
  obtain ⟨h1, h2, n1, n2, n3⟩ := hok hc
  rw [hc] at HS
  by_cases hM : 12 < M
  · have HF := Lib.hid (show fewI e p n xs = ([], 5) by unfold fewI; rw [if_neg (by simp [hc]), if_pos (by rw [← HL.out]; exact hM)])
    rw [HF.out] at HR
    have hM' : (12 : Int) < M := by omega
    clear hok HFS HF hc
    go_enter Try.func24, Try.ntmps24
    go_wp2_with (first | (go_at_call 40; refine Calls.mono (HS.out _ (hu.bel ?_)) ?_; (focus (repeat (first | with_reducible exact Bel.refl _ | with_reducible assumption | apply Bel.ext | apply Bel.alloc | apply Bel.drew | exact Bel.refl _))); rintro ee ww ⟨rfl, _, rfl⟩))
    rw [← HR.out]
    exact RetRow.mk' rfl (by (repeat (first | with_reducible exact Bel.refl _ | with_reducible assumption | apply Bel.ext | apply Bel.alloc | apply Bel.drew | exact Bel.refl _ | refine Bel.set ?_ (by first | (simp; done) | (simp [go_sem]; done) | omega) _)) : Bel _ _) (World.ownsRow_nil _ _ _ _)
  have hM' : ¬ (12 : Int) < M := by omega
  have HF := Lib.hid (HFS.out hc (by rw [← HL.out]; exact hM))
  rw [HF.out, ← HL.out] at HR
  clear HF HFS hok hc
  obtain ⟨N, rfl⟩ : ∃ N : Nat, n = (N : Int) := ⟨n.toNat, by omega⟩
  rw [show eachL e p N xs = (xs.map (shB e p N)).map (fun f => maskOf f N) from by unfold eachL; rw [List.map_map, Int.toNat_natCast]; rfl, Int.toNat_natCast] at HR
  have hget : ∀ (k : Nat) (x : Int × Int), xs[k]? = some x → 0 ≤ x.1 ∧ x.1 ≤ 10000000 ∧ 0 ≤ x.2 ∧ x.2 ≤ 10000000 ∧ x.1 ≤ x.2 := fun k x hx' => windowsB_get h2 hx'
  have HG := Lib.hid hget
  have HE := Lib.hid h1
  have HLF : Hid ((xs.map (shB e p N)).length = M) := Lib.hid (by rw [List.length_map]; exact hs.len.symm)
  have HAT : Hid (∀ (k : Nat) (x : Int × Int), xs[k]? = some x → (xs.map (shB e p N))[k]? = some (shB e p N x)) := Lib.hid (fun k x hx => by rw [List.getElem?_map, hx]; rfl)
  clear hget h2 h1
  generalize xs.map (shB e p N) = fs at *
  go_enter Try.func24, Try.ntmps24
  go_wp2_with (first | (go_at_call 40; refine Calls.mono (HS.out _ (hu.bel ?_)) ?_; (focus (repeat (first | with_reducible exact Bel.refl _ | with_reducible assumption | apply Bel.ext | apply Bel.alloc | apply Bel.drew | exact Bel.refl _))); rintro ee ww ⟨rfl, _, rfl⟩))
  have hwA : Bel w (w.alloc (Obj.cells #[.int .i64 e, .int .i64 p] 33)) := by (repeat (first | with_reducible exact Bel.refl _ | with_reducible assumption | apply Bel.ext | apply Bel.alloc | apply Bel.drew | exact Bel.refl _ | refine Bel.set ?_ (by first | (simp; done) | (simp [go_sem]; done) | omega) _))
  have hc0 : (w.alloc (Obj.cells #[.int .i64 e, .int .i64 p] 33)).cell? ⟨w.heap.size, 0, none⟩ = some (.int .i64 e) := by simp [go_sem]
  have hc1 : (w.alloc (Obj.cells #[.int .i64 e, .int .i64 p] 33)).cell? ⟨w.heap.size, 1, none⟩ = some (.int .i64 p) := by simp [go_sem]
  have hz0 : w.heap.size < (w.alloc (Obj.cells #[.int .i64 e, .int .i64 p] 33)).heap.size := by first | (simp; done) | (simp; omega)
  generalize (w.alloc (Obj.cells #[.int .i64 e, .int .i64 p] 33)) = A at *
  have hM := mem_nil A
  have hsA := hs.bel hwA
  go_loopw [9, 10] (fun o i wr => ∃ (k : Nat) (us : List Value), k ≤ M ∧ i = .int .i64 k ∧ Hid (us.length = k) ∧ Hid (Mem A wr (⟨o, 62, 1, k, us⟩ :: innerB 4 N us (fs.take k)))) (fun _ i _ => M - (intOf i).toNat)
  case atStart =>
    refine ⟨0, [], Nat.zero_le _, rfl, Lib.hid rfl, Lib.hid ?_⟩
    have h9 := fun g => mem_lit (X := (ext A g)) (mem_bel (mem_nil A) (by (repeat (first | with_reducible exact Bel.refl _ | with_reducible assumption | apply Bel.ext | apply Bel.alloc | apply Bel.drew | exact Bel.refl _ | refine Bel.set ?_ (by first | (simp; done) | (simp [go_sem]; done) | omega) _)))) 62 1 [] 0 rfl (by unfold maxLen; omega)
    simpa [innerB] using h9 _
  case round =>
    obtain ⟨k, us, hk, rfl, hus, hmm⟩ := hrel
    obtain ⟨g4, rfl⟩ := ext_ex hmm.out.bel
    by_cases hlt : k < M
    · obtain ⟨bb, off, rfl, hb⟩ := hsA.base hlt
      obtain ⟨x, y, hx, hd0, hd1⟩ := hsA.at2 hlt
      obtain ⟨x1, x2, y1, y2, xy⟩ := HG.out k _ hx.out
      dsimp only at x1 x2 y1 y2 xy
      have HX := Lib.hid (HAT.out k _ hx.out)
      have HS := Lib.hid (fun w => l16Shown_c e p x y N HE.out x1 x2 y1 y2 (by omega) (by omega) n3 xy w)
      generalize shB e p N (x, y) = S at *
      have HTK : Hid (fs.take (k + 1) = fs.take k ++ [S]) := Lib.hid (by rw [List.take_add_one, HX.out]; rfl)
      have HTL : Hid (us.length = (fs.take k).length) := Lib.hid (by rw [List.length_take, HLF.out, hus.out]; omega)
      go_wp2_with fail
      go_region_held3 (fun q => q.cell? ⟨w.heap.size, 0, none⟩ = some (.int .i64 e) ∧ q.cell? ⟨w.heap.size, 1, none⟩ = some (.int .i64 p) ∧ q.cell? ⟨bb, off + k * 2, none⟩ = some (.int .i64 x) ∧ q.cell? ⟨bb, off + k * 2 + 1, none⟩ = some (.int .i64 y)) (simp [go_sem, *]) (first | (go_at_call 42; refine Calls.mono (HS.out _) ?_; rintro ee ww ⟨v1, g1, rfl, rfl, ho1⟩; obtain ⟨a1, c1, rfl, hle1, hcap1⟩ := own_len ho1) | (refine step_append_mem (by rfl) (.tmp 35) (.tmp 43) 70 62 1 24 (by rfl) appBB (by decide) A _ 0 _ _ _ (by rfl) [.slice a1 N c1] (by rfl) _ (by rfl) (by rfl) (by intro u hu; simp at hu; subst hu; rfl) (by intro j u hu; rcases j with _ | _ | _ | j <;> simp at hu <;> subst hu <;> simp [go_sem]) (mem_bel (mem_own_add (mem_bel hmm.out ?_) ?_ _ _ _ _ _ ho1) ?_) (by omega) (by omega) ?_; (focus (repeat (first | with_reducible exact Bel.refl _ | with_reducible assumption | apply Bel.ext | apply Bel.alloc | apply Bel.drew | exact Bel.refl _))); (focus (repeat (first | with_reducible exact Bel.refl _ | with_reducible assumption | apply Bel.ext | apply Bel.alloc | apply Bel.drew | exact Bel.refl _))); (focus (repeat (first | with_reducible exact Bel.refl _ | with_reducible assumption | apply Bel.ext | apply Bel.alloc | apply Bel.drew | exact Bel.refl _))); intro b2 c2 g2 hm2))
      all_goals go_wp2
      all_goals go_roundw
      case rel =>
        refine ⟨k + 1, us ++ [.slice a1 N c1], by omega, by go_num, Lib.hid (by rw [List.length_append, hus.out]; rfl), Lib.hid ?_⟩
        rw [HTK.out, innerB_snoc HTL.out]
        simpa using hm2
      case measure => simp [intOf]; omega
    · have hk' : k = M := by omega
      subst hk'
      have hmo := hmm.out
      rw [List.take_of_length_le (by rw [HLF.out]; exact Nat.le_refl _)] at hmo
      have RB := Lib.hid (grp_rdB (hus.out.trans HLF.out.symm) (by rw [HLF.out]; exact hmo))
      obtain ⟨X, hX⟩ : ∃ X, X = ext A g4 := ⟨_, rfl⟩
      have hwX : Bel w X := by rw [hX]; exact Below.trans hwA (Below.mono (by (repeat (first | with_reducible exact Bel.refl _ | with_reducible assumption | apply Bel.ext | apply Bel.alloc | apply Bel.drew | exact Bel.refl _ | refine Bel.set ?_ (by first | (simp; done) | (simp [go_sem]; done) | omega) _)) : Bel A _) hwA.size)
      rw [← hX] at RB ⊢
      clear hX hmo hmm hsA
      have HP : Hid (∀ (q : Nat) (u : Value) (b c : Nat) (w' : World), q ≤ 30 → Bel X w' → Rd celB w' u (mapB (fun _ => false) N) → Hid (w'.ownsRow X.heap.size 2 1 (.slice (some ⟨b, 0, none⟩) 0 c) 0 (celI.row [])) → b < w'.heap.size →
          Calls Try.prog 46 #[u9, u, .slice (some ⟨b, 0, none⟩) 0 c, .int .i64 0, .int .i64 (q : Int)] w' (RetPick 2 X.heap.size [] (comb (2 ^ N - 1) q 0 0 (fs.map (fun f => maskOf f N))) w')) :=
        Lib.hid (fun q u b c w' hq hw' h1 h2 h3 => by
          have := l16Pick_c N (by omega) u9 fs (by rw [HLF.out]; omega) q 0 0 (fun _ => false) u X.heap.size b c [] w' (Lib.hid rfl) (Nat.zero_le _) hq (by omega) (RB.out.bel hw') h1 h2 hw'.size h3
          rw [maskOf_none] at this
          exact this)
      clear RB
      generalize fs.map (fun f => maskOf f N) = sets at *
      generalize 2 ^ N - 1 = T at *
      go_wp2
      go_loopw [11] (fun i wr => ∃ q : Nat, q ≤ k + 1 ∧ i = .int .i64 q ∧ (∃ g, wr = ext X g) ∧ Hid (firstS T sets (k + 1) 0 = firstS T sets (k + 1 - q) q)) (fun i _ => k + 1 - (intOf i).toNat)
      case atStart => exact ⟨0, by omega, rfl, ext_ex (by (repeat (first | with_reducible exact Bel.refl _ | with_reducible assumption | apply Bel.ext | apply Bel.alloc | apply Bel.drew | exact Bel.refl _ | refine Bel.set ?_ (by first | (simp; done) | (simp [go_sem]; done) | omega) _)) : Bel _ _), Lib.hid rfl⟩
      case round =>
        obtain ⟨q, q2, rfl, ⟨g, rfl⟩, hv⟩ := hrel
        by_cases hlt2 : q ≤ k
        · have HQ := Lib.hid (fun u b c w' hw' => HP.out q u b c w' (by omega) hw')
          have HH := Lib.hid (fun l => @firstS_hit T sets (k - q) q l)
          have HMI := Lib.hid (@firstS_miss T sets (k - q) q)
          generalize comb T q 0 0 sets = r at *
          rcases r with _ | l
          · have HM2 := Lib.hid (HMI.out rfl)
            clear HMI HH
            go_wp2_with (first | (at_make; refine wpList_make_fill rfl _ _ 62 4 1 rfl Try.underlying62 (.bool false) rfl (by kernel_rfl) N rfl rfl (by omega) (by omega) ?_; intro g5 hown) | (go_at_call 46; (refine Calls.mono (HQ.out _ _ _ _ ?_ (Rd.bel (rd_of_row (own_cast hown (mapB_len _ N).symm (rep_false N))) ?_) (Lib.hid (own_empty _ _ _ _ ?_)) ?_) ?_); (focus (repeat (first | with_reducible exact Bel.refl _ | with_reducible assumption | apply Bel.ext | apply Bel.alloc | apply Bel.drew | exact Bel.refl _))); (focus (repeat (first | with_reducible exact Bel.refl _ | with_reducible assumption | apply Bel.ext | apply Bel.alloc | apply Bel.drew | exact Bel.refl _))); (focus (exact bel_size (by (repeat (first | with_reducible exact Bel.refl _ | with_reducible assumption | apply Bel.ext | apply Bel.alloc | apply Bel.drew | exact Bel.refl _ | refine Bel.set ?_ (by first | (simp; done) | (simp [go_sem]; done) | omega) _)) : Bel X _))); (focus (simp)); rintro ee wz ⟨v1, g1, rfl, rfl, hl1⟩))
            go_roundw
            case rel => exact ⟨q + 1, by omega, by go_num, ext_ex (by (repeat (first | with_reducible exact Bel.refl _ | with_reducible assumption | apply Bel.ext | apply Bel.alloc | apply Bel.drew | exact Bel.refl _ | refine Bel.set ?_ (by first | (simp; done) | (simp [go_sem]; done) | omega) _)) : Bel _ _), Lib.hid (by rw [hv.out, show k + 1 - q = k - q + 1 by omega, HM2.out, show k + 1 - (q + 1) = k - q by omega])⟩
            case measure => simp [intOf]; omega
          · have HF := Lib.hid (show firstS T sets (k + 1) 0 = some l by rw [hv.out, show k + 1 - q = k - q + 1 by omega]; exact HH.out l rfl)
            clear HMI HH
            rw [HF.out] at HR
            go_wp2_with (first | (at_make; refine wpList_make_fill rfl _ _ 62 4 1 rfl Try.underlying62 (.bool false) rfl (by kernel_rfl) N rfl rfl (by omega) (by omega) ?_; intro g5 hown) | (go_at_call 46; (refine Calls.mono (HQ.out _ _ _ _ ?_ (Rd.bel (rd_of_row (own_cast hown (mapB_len _ N).symm (rep_false N))) ?_) (Lib.hid (own_empty _ _ _ _ ?_)) ?_) ?_); (focus (repeat (first | with_reducible exact Bel.refl _ | with_reducible assumption | apply Bel.ext | apply Bel.alloc | apply Bel.drew | exact Bel.refl _))); (focus (repeat (first | with_reducible exact Bel.refl _ | with_reducible assumption | apply Bel.ext | apply Bel.alloc | apply Bel.drew | exact Bel.refl _))); (focus (exact bel_size (by (repeat (first | with_reducible exact Bel.refl _ | with_reducible assumption | apply Bel.ext | apply Bel.alloc | apply Bel.drew | exact Bel.refl _ | refine Bel.set ?_ (by first | (simp; done) | (simp [go_sem]; done) | omega) _)) : Bel X _))); (focus (simp)); rintro ee wz ⟨v1, g1, rfl, rfl, hl1⟩))
            have hr := hl1 l rfl
            rw [← HR.out]
            refine RetRow.mk' rfl ?_ (own_mono hr hwX.size)
            exact Below.trans hwX (Below.mono (by (repeat (first | with_reducible exact Bel.refl _ | with_reducible assumption | apply Bel.ext | apply Bel.alloc | apply Bel.drew | exact Bel.refl _ | refine Bel.set ?_ (by first | (simp; done) | (simp [go_sem]; done) | omega) _)) : Bel X _) hwX.size)
        · have hq : q = k + 1 := by omega
          have HF := Lib.hid (show firstS T sets (k + 1) 0 = none by rw [hv.out, hq, Nat.sub_self]; rfl)
          rw [HF.out] at HR
          have hlt3 : ¬ (q : Int) ≤ k := by omega
          clear HF hv hq
          go_wp2
          rw [← HR.out]
          refine RetRow.mk' rfl ?_ (World.ownsRow_nil _ _ _ _)
          exact Below.trans hwX (Below.mono (by (repeat (first | with_reducible exact Bel.refl _ | with_reducible assumption | apply Bel.ext | apply Bel.alloc | apply Bel.drew | exact Bel.refl _ | refine Bel.set ?_ (by first | (simp; done) | (simp [go_sem]; done) | omega) _)) : Bel X _) hwX.size)
end Go.Proofs.Ytpfemaonipcbgaa
