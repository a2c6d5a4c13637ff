/- The greedy choice of windows: the program's side. -/
import Derived.Test.YtpfemaonipcbgaaPut
import Derived.Test.YtpfemaonipcbgaaFew
import Derived.Test.YtpfemaonipcbgaaPick
namespace Go.Proofs.Ytpfemaonipcbgaa
open Go.RowKit

theorem bestG_hit {α : Type} {g : α → Nat} {fs : List α} {i b m : Nat} {x : α} (h : fs[i]? = some x) (hl : m < g x) : bestG g i b m (fs.drop i) = bestG g (i + 1) i (g x) (fs.drop (i + 1)) := by
  rw [drop_cons_of h]
  show (if m < g x then bestG g (i + 1) i (g x) _ else bestG g (i + 1) b m _) = _
  rw [if_pos hl]
theorem bestG_skip {α : Type} {g : α → Nat} {fs : List α} {i b m : Nat} {x : α} (h : fs[i]? = some x) (hl : ¬ m < g x) : bestG g i b m (fs.drop i) = bestG g (i + 1) b m (fs.drop (i + 1)) := by
  rw [drop_cons_of h]
  show (if m < g x then bestG g (i + 1) i (g x) _ else bestG g (i + 1) b m _) = _
  rw [if_neg hl]
def greedyNI (e p n : Int) (xs : List (Int × Int)) : List Int × Int :=
  if codeB e p n xs ≠ 0 then ([], codeB e p n xs) else if maskOf (allF e p n xs) n.toNat ≠ 2 ^ n.toNat - 1 then ([], 3)
  else (idxL (greedyG (xs.map (shB e p n)) n.toNat (n.toNat + 1) (fun _ => false) (fun _ => false)) xs.length, 0)
theorem greedyNI_len (e p n : Int) (xs : List (Int × Int)) : (greedyNI e p n xs).1.length ≤ 1000 := by
  unfold greedyNI
  split
  · simp
  · rename_i hc
    split
    · simp
    · have hw := (codeB_ok (by simpa using hc)).2.1
      have := windowsB_len hw
      exact Nat.le_trans (idxL_len _ _) (by omega)
/-- one more bin of the list is shown by the round's window -/
theorem round_more {fs : List (Nat → Bool)} {h f : Nat → Bool} {N : Nat} (hp : 0 < (pickG fs h N).2) (hg : gainN f h N = (pickG fs h N).2) : (idxL h N).length < (idxL (fun i => h i || f i) N).length := by
  rw [gain_or]; omega
theorem row_mapB (t : Nat → Bool) (M : Nat) : celB.row (mapB t M) = (List.range M).map (fun i => Value.bool (t i)) := by
  unfold Cel.row mapB
  rw [List.flatMap_map]
  show (List.range M).flatMap (fun i => [Value.bool (t i)]) = _
  induction List.range M with
  | nil => rfl
  | cons a r ih => rw [List.flatMap_cons, ih]; rfl
theorem set_taken (t : Nat → Bool) {M k : Nat} (hk : k < M) : (celB.row (mapB t M)).set k (.bool true) = celB.row (mapB (fun i => t i || i == k) M) := by
  rw [row_mapB, row_mapB]
  refine List.ext_getElem? fun i => ?_
  rw [List.getElem?_set, List.getElem?_map, List.getElem?_map]
  by_cases h : k = i
  · subst h
    simp [hk]
  · rw [if_neg h]
    have e : (i == k) = false := by simp; omega
    rcases Nat.lt_or_ge i M with c | c
    · simp [List.getElem?_range c, e]
    · simp [List.getElem?_eq_none, c]
set_option maxHeartbeats 1000000 in
theorem taken_c (q : Nat) (u : Value) (t : Nat → Bool) (M i : Nat) (hi : i < M) (w : World) (hq : q < w.heap.size) (hc : w.cell? ⟨q, 0, none⟩ = some u) (hu : Rd celB w u (mapB t M)) :
    Calls Try.prog 53 #[.int .i64 (i : Int), .pointer (some ⟨q, 0, none⟩)] w (Ret (.bool (t i)) w) := by
  refine hide_ret fun v H => ?_
  obtain ⟨a, m, c, rfl, hs⟩ := hu.sl
  have hcap := hs.le; have hmax := hs.cap
  unfold maxLen at hmax
  have hm := hs.len
  rw [mapB_len] at hm
  subst hm
  obtain ⟨bb, off, rfl, hb⟩ := hs.base hi
  obtain ⟨x, hx, hd⟩ := hs.atB hi
  rw [← mapB_get hx.out] at H
  clear hx
  go_enter Try.func53, Try.ntmps53
  go_wp2
  go_ret
  refine Ret.mk ?_ (?_ : Bel _ _)
  · exact H.out
  · (repeat (first | with_reducible exact Bel.refl _ | with_reducible assumption | apply Bel.ext | apply Bel.alloc | apply Bel.drew | exact Bel.refl _ | refine Bel.set ?_ (by first | (simp; done) | (simp [go_sem]; done) | omega) _))
set_option maxRecDepth 100000 in
set_option maxHeartbeats 4000000 in
theorem GreedyNights_c (e p n : Int) (u : Value) (xs : List (Int × Int)) (w : World) (hu : Rd cel2 w u xs) :
    Calls Try.prog 27 #[.agg #[.int .i64 e, .int .i64 p], u, .int .i64 n] w (RetRow 2 1 (fun v => .tuple #[v, .int .i64 (greedyNI e p n xs).2]) (greedyNI e p n xs).1.length (celI.row (greedyNI e p n xs).1) w) := by
  generalize hR : RetRow _ _ _ _ _ w = R
  have HR := Lib.hid hR
  clear hR
  have HS := Lib.hid (fun w hu => shownEach_c e p n u xs w hu)
  have hok := @codeB_ok e p n xs
  obtain ⟨aa, M, cc, rfl, hs⟩ := hu.sl
  have hcap := hs.le; have hmax := hs.cap
  unfold maxLen at hmax
  have HL := Lib.hid hs.len
  clear hs
  unfold greedyNI at HR
  unfold eachI at HS
  rw [← HL.out] at HR
  by_cases hc : codeB e p n xs = 0
  rotate_left
  · clear hok
    rw [if_pos hc] at HR HS
    have hc' : (codeB e p n xs != 0) = true := by simp [hc]
    generalize codeB e p n xs = c at *
    clear hc
    go_enter Try.func27, Try.ntmps27
    go_wp2_with (first | (go_at_call 43; refine Calls.mono (HS.out _ (hu.bel ?_)) ?_; (focus (repeat (first | with_reducible exact Bel.refl _ | with_reducible assumption | apply Bel.ext | apply Bel.alloc | apply Bel.drew | exact Bel.refl _))); rintro ee ww ⟨v0, g0, rfl, rfl, hown⟩))
    rw [← HR.out]
    exact RetRow.mk' rfl (by (repeat (first | with_reducible exact Bel.refl _ | with_reducible assumption | apply Bel.ext | apply Bel.alloc | apply Bel.drew | exact Bel.refl _ | refine Bel.set ?_ (by first | (simp; done) | (simp [go_sem]; done) | omega) _)) : Bel _ _) (World.ownsRow_nil _ _ _ _)
  obtain ⟨h1, h2, n1, n2, n3⟩ := hok hc
  rw [if_neg (by simp [hc])] at HR HS
  clear hok hc
  obtain ⟨N, rfl⟩ : ∃ N : Nat, n = (N : Int) := ⟨n.toNat, by omega⟩
  simp only [Int.toNat_natCast] at HR HS
  have hM30 := windowsB_len h2
  rw [← HL.out] at hM30
  have HA := Lib.hid (fun w => allShown_c N (by omega) w)
  by_cases hS : maskOf (allF e p N xs) N = 2 ^ N - 1
  rotate_left
  · rw [if_pos hS] at HR
    have hne : (((maskOf (allF e p N xs) N : Nat) : Int) != ((2 ^ N - 1 : Nat) : Int)) = true := by simp; omega
    generalize maskOf (allF e p N xs) N = S at *
    generalize 2 ^ N - 1 = T at *
    clear hS
    go_enter Try.func27, Try.ntmps27
    go_wp2_with (first | (go_at_call 43; refine Calls.mono (HS.out _ (hu.bel ?_)) ?_; (focus (repeat (first | with_reducible exact Bel.refl _ | with_reducible assumption | apply Bel.ext | apply Bel.alloc | apply Bel.drew | exact Bel.refl _))); rintro ee ww ⟨v0, g0, rfl, rfl, hown⟩) | (go_at_call 47; refine Calls.mono (HA.out _) ?_; rintro ee ww ⟨rfl, rfl⟩))
    rw [← HR.out]
    exact RetRow.mk' rfl (by (repeat (first | with_reducible exact Bel.refl _ | with_reducible assumption | apply Bel.ext | apply Bel.alloc | apply Bel.drew | exact Bel.refl _ | refine Bel.set ?_ (by first | (simp; done) | (simp [go_sem]; done) | omega) _)) : Bel _ _) (World.ownsRow_nil _ _ _ _)
  rw [if_neg (by simp [hS])] at HR
  have HALL : Hid (∀ i, i < N → ∃ f ∈ xs.map (shB e p N), f i = true) := Lib.hid (fun i hi => by
    have h9 := (maskOf_inj (f := allF e p N xs) (g := fun _ => true) (n := N)).1 (by rw [hS, maskOf_all]) i hi
    unfold allF at h9
    obtain ⟨x, hx, hb⟩ := List.any_eq_true.1 h9
    exact ⟨_, List.mem_map.2 ⟨x, hx, rfl⟩, hb⟩)
  have HFL : Hid ((xs.map (shB e p N)).length = M) := Lib.hid (by rw [List.length_map, HL.out])
  have HEL : Hid (eachL e p N xs = (xs.map (shB e p N)).map (fun f => maskOf f N)) := Lib.hid (by unfold eachL; rw [List.map_map, Int.toNat_natCast]; rfl)
  rw [HEL.out, hS] at HS
  clear HEL hS
  generalize xs.map (shB e p N) = fs at *
  rw [List.length_map, HFL.out] at HS
  have hTT : (((2 ^ N - 1 : Nat) : Int) != ((2 ^ N - 1 : Nat) : Int)) = false := by simp
  obtain ⟨T, hT⟩ : ∃ T, 2 ^ N - 1 = T := ⟨_, rfl⟩
  rw [hT] at HS HA hTT
  have HT := Lib.hid hT
  clear hT
  go_enter Try.func27, Try.ntmps27
  go_wp2_with (first | (go_at_call 43; refine Calls.mono (HS.out _ (hu.bel ?_)) ?_; (focus (repeat (first | with_reducible exact Bel.refl _ | with_reducible assumption | apply Bel.ext | apply Bel.alloc | apply Bel.drew | exact Bel.refl _))); rintro ee ww ⟨v0, g0, rfl, hww, hown⟩; rw [← hww] at hown; have hwX : Bel w ww := (by rw [hww]; (repeat (first | with_reducible exact Bel.refl _ | with_reducible assumption | apply Bel.ext | apply Bel.alloc | apply Bel.drew | exact Bel.refl _ | refine Bel.set ?_ (by first | (simp; done) | (simp [go_sem]; done) | omega) _))); clear hww; obtain ⟨a0, c0, rfl, hle0, hcap0⟩ := own_len hown) | (go_at_call 47; refine Calls.mono (HA.out _) ?_; rintro ee ww ⟨rfl, rfl⟩) | (at_make; refine wpList_make_fill rfl _ _ 62 4 1 rfl Try.underlying62 (.bool false) rfl (by kernel_rfl) M rfl rfl (by omega) (by omega) ?_; intro g5 hown5))
  have RS : Rd celU ww (.slice a0 M c0) (fs.map (fun f => maskOf f N)) := rd_of_row (own_cast hown (by simp [HFL.out]) rfl)
  have k1 := mem_own_add (W := ww) (X := ww) (x := ext ww g5) (mem_nil ww) ((Bel.refl ww).ext g5) _ _ 1 M _ (own_cast hown5 rfl (rep_false M))
  have k2 := mem_lit k1 62 1 [.slice (some ⟨ww.heap.size, 0, none⟩) M M] 1 rfl (by unfold maxLen; omega)
  simp only [List.nil_append, List.cons_append] at k2
  have HM0 := Lib.hid k2
  clear k1 k2
  clear hown hown5
  obtain ⟨q, hq⟩ : ∃ q, (ext ww g5).heap.size = q := ⟨_, rfl⟩
  obtain ⟨b0, hb0⟩ : ∃ b0, ww.heap.size = b0 := ⟨_, rfl⟩
  rw [hq, hb0] at HM0 ⊢
  clear hq
  generalize (ext ww g5).alloc (.cells #[.slice (some ⟨b0, 0, none⟩) M M] 62) = Y at *
  go_loopw [12] (fun hv wr => ∃ (h t : Nat → Bool) (d : Nat), hv = .int .u64 ((maskOf h N : Nat) : Int) ∧ Hid (greedyG fs N (N + 1) (fun _ => false) (fun _ => false) = greedyG fs N d h t) ∧ Hid (N - (idxL h N).length < d) ∧ Hid (Mem ww wr [⟨.slice (some ⟨b0, 0, none⟩) M M, 4, 1, M, celB.row (mapB t M)⟩, ⟨.slice (some ⟨q, 0, none⟩) 1 1, 62, 1, 1, [.slice (some ⟨b0, 0, none⟩) M M]⟩])) (fun hv _ => N - bsN (intOf hv).toNat 64)
  case atStart => exact ⟨fun _ => false, fun _ => false, N + 1, by rw [maskOf_none]; rfl, Lib.hid rfl, Lib.hid (by omega), HM0⟩
  case round =>
    obtain ⟨h, t, d, rfl, hv, hd, hm⟩ := hrel
    obtain ⟨g, hg⟩ := ext_ex hm.out.bel
    subst hg
    have hM := hm.out
    obtain ⟨o1, o2, o3, o4, o5⟩ := mem_seen hM 1 rfl (by omega)
    have G0 := o1 0 _ rfl
    clear o1
    by_cases hall : maskOf h N = 2 ^ N - 1
    · have HF := Lib.hid (hv.out.trans (greedyG_done hall d))
      rw [HF.out] at HR
      rw [HT.out] at hall
      have eg : ∀ args w, (callFunc 53 args).run Try.prog w = .ok (.enter 53 args) w := enters_of Try.func53 (by kernel_rfl) rfl
      have RT : Rd celB (ext ww g) (.slice (some ⟨b0, 0, none⟩) M M) (mapB t M) := rd_of_row (own_cast (hM.own 0 _ rfl) (mapB_len t M).symm rfl)
      have hcq : (ext ww g).cell? ⟨q, 0, none⟩ = some (.slice (some ⟨b0, 0, none⟩) M M) := by
        have h9 := (hM.own 1 _ rfl).cells (g := q) rfl 0 _ rfl
        rw [addr_add] at h9
        simpa using h9
      have HI := Lib.hid (fun (W : World) (hW : Bel (ext ww g) W) => indicesWhere_c t 53 #[.pointer (some ⟨q, 0, none⟩)] eg M (by omega) W
        (fun i V hi hV => taken_c q _ t M i hi V (Nat.lt_of_lt_of_le o4 (Nat.le_trans hW.size hV.size)) (by rw [Below.cell hV (p := ⟨q, 0, none⟩) (Nat.lt_of_lt_of_le o4 hW.size), Below.cell hW (p := ⟨q, 0, none⟩) o4]; exact hcq) ((RT.bel hW).bel hV)))
      have hne : (((maskOf h N : Nat) : Int) != (T : Int)) = false := by rw [hall]; simp
      clear HF hv hd hm RT hcq eg
      generalize maskOf h N = S at *
      go_wp2_with (first | (go_at_call 52; refine Calls.mono (HI.out _ ?_) ?_; (focus (repeat (first | with_reducible exact Bel.refl _ | with_reducible assumption | apply Bel.ext | apply Bel.alloc | apply Bel.drew | exact Bel.refl _))); rintro ee wz ⟨v1, g1, rfl, rfl, hownR⟩))
      rw [← HR.out]
      refine RetRow.mk' rfl ?_ (own_mono hownR ?_)
      · exact Below.trans hwX (Below.mono (by (repeat (first | with_reducible exact Bel.refl _ | with_reducible assumption | apply Bel.ext | apply Bel.alloc | apply Bel.drew | exact Bel.refl _ | refine Bel.set ?_ (by first | (simp; done) | (simp [go_sem]; done) | omega) _)) : Bel ww _) hwX.size)
      · exact Nat.le_trans hwX.size (bel_size (by (repeat (first | with_reducible exact Bel.refl _ | with_reducible assumption | apply Bel.ext | apply Bel.alloc | apply Bel.drew | exact Bel.refl _ | refine Bel.set ?_ (by first | (simp; done) | (simp [go_sem]; done) | omega) _)) : Bel ww _))
    · have hne : (((maskOf h N : Nat) : Int) != (T : Int)) = true := by rw [← HT.out]; simp; omega
      have hp := pickG_pos HALL.out (fun hq => hall (by rw [← maskOf_all, maskOf_inj]; exact hq))
      obtain ⟨a', m', c', hv0, ss⟩ := RS.sl
      cases hv0
      go_wp2
      go_loopw [13, 14, 43] (fun b m i wr => ∃ (k bb mm : Nat), k ≤ M ∧ i = .int .i64 k ∧ b = .int .i64 bb ∧ m = .int .i64 mm ∧ wr = ext ww g ∧ Hid (pickG fs h N = bestG (fun f => gainN f h N) k bb mm (fs.drop k))) (fun _ _ i _ => M - (intOf i).toNat)
      case atStart => exact ⟨0, 0, 0, Nat.zero_le _, rfl, rfl, rfl, rfl, Lib.hid rfl⟩
      case round =>
        obtain ⟨k, bb, mm, hk, rfl, rfl, rfl, rfl, hbg⟩ := hrel
        by_cases hlt : k < M
        · obtain ⟨ab, off, rfl, hb⟩ := ss.base hlt
          obtain ⟨x, hx, hcx⟩ := ss.atU hlt
          obtain ⟨f, hf, rfl⟩ : ∃ f, fs[k]? = some f ∧ maskOf f N = x := by
            have := hx.out
            rw [List.getElem?_map] at this
            cases hq : fs[k]? with
            | none => rw [hq] at this; cases this
            | some f => rw [hq] at this; exact ⟨f, rfl, by simpa using this⟩
          have HO := Lib.hid (fun w => OnesCount64_c (maskOf (fun i => f i && !h i) N) (maskOf_lt64 _ (by omega)) w)
          rw [pop_mask _ (by omega : N ≤ 64), ← mask_andNot f h (by omega : N ≤ 64)] at HO
          have HO2 : Hid (∀ w, Calls Try.prog 51 #[.int .u64 (bits .andNot .u64 ((maskOf f N : Nat) : Int) ((maskOf h N : Nat) : Int))] w (Same (.int .i64 (gainN f h N : Nat)) w)) := HO
          have HHit := Lib.hid (fun hl => bestG_hit (g := fun f => gainN f h N) (b := bb) (m := mm) hf hl)
          have HSk := Lib.hid (fun hl => bestG_skip (g := fun f => gainN f h N) (b := bb) (m := mm) hf hl)
          clear HO hx
          by_cases hgt : mm < gainN f h N
          · have HN := Lib.hid (hbg.out.trans (HHit.out hgt))
            clear HHit HSk hbg
            generalize gainN f h N = gn at *
            go_wp2_with (first | (go_at_call 51; refine Calls.mono (HO2.out _) ?_; rintro ee ww ⟨rfl, rfl⟩))
            go_roundw
            case rel => exact ⟨k + 1, k, gn, by omega, by go_num, rfl, rfl, trivial, HN⟩
            case measure => simp [intOf]; omega
          · have HN := Lib.hid (hbg.out.trans (HSk.out hgt))
            clear HHit HSk hbg
            generalize gainN f h N = gn at *
            go_wp2_with (first | (go_at_call 51; refine Calls.mono (HO2.out _) ?_; rintro ee ww ⟨rfl, rfl⟩))
            go_roundw
            case rel => exact ⟨k + 1, bb, mm, by omega, by go_num, rfl, rfl, trivial, HN⟩
            case measure => simp [intOf]; omega
        · have hkM : k = M := by omega
          have hb2 := hbg.out
          rw [List.drop_of_length_le (by rw [HFL.out, hkM]; exact Nat.le_refl _)] at hb2
          have hpk : pickG fs h N = (bb, mm) := hb2
          obtain ⟨f, hf, hgn⟩ := pickG_at hp
          have HST := Lib.hid (fun d => greedyG_step (t := t) hall hf d)
          have HRM := Lib.hid (round_more hp hgn)
          rw [hpk] at hf HST
          have hbM : bb < M := by have := (List.getElem?_eq_some_iff.1 hf).1; rw [HFL.out] at this; exact this
          obtain ⟨ab, off, rfl, hb⟩ := ss.base hbM
          obtain ⟨x, hx, hcx⟩ := ss.atU hbM
          have hxf : maskOf f N = x := by have := hx.out; rw [List.getElem?_map, hf] at this; simpa using this
          subst hxf
          have hor : bits .or .u64 ((maskOf h N : Nat) : Int) ((maskOf f N : Nat) : Int) = ((maskOf (fun i => h i || f i) N : Nat) : Int) := by rw [bits_or_u (maskOf_lt64 h (by omega)) (maskOf_lt64 f (by omega)), maskOf_or]
          obtain ⟨d', rfl⟩ : ∃ d', d = d' + 1 := ⟨d - 1, by have := hd.out; omega⟩
          obtain ⟨p1, p2, p3, p4, p5⟩ := mem_seen hM 0 rfl (by omega)
          have P0 := p1 bb (.bool (t bb)) (by rw [row_mapB]; simp [hbM])
          have HMP := Lib.hid (mem_put1 hM 0 rfl bb (.bool true))
          have HLE := Lib.hid (idxL_len (fun i => h i || f i) N)
          have HPM1 := Lib.hid (pop_mask h (by omega : N ≤ 64))
          have HPM2 := Lib.hid (pop_mask (fun i => h i || f i) (by omega : N ≤ 64))
          clear p1 hbg hb2 hx hgn hp hf hpk
          go_wp2
          go_roundw
          case rel =>
            refine ⟨fun i => h i || f i, fun i => t i || i == bb, d', rfl, Lib.hid (hv.out.trans (HST.out d')), Lib.hid (by have := hd.out; have := HRM.out; have := HLE.out; omega), Lib.hid ?_⟩
            rw [← set_taken t hbM]
            exact HMP.out
          case measure => simp only [intOf, Int.toNat_natCast]; have := HRM.out; have := HLE.out; have := HPM1.out; have := HPM2.out; omega
end Go.Proofs.Ytpfemaonipcbgaa
