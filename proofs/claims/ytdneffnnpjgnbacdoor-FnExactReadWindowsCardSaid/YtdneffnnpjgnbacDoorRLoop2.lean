/- The reference's 'ReadWindows' hands back what 'readW' says. -/
import Derived.Test.YtdneffnnpjgnbacDoorRLoop
import Derived.Test.YtdneffnnpjgnbacDoorMem
namespace Go.Proofs.YtdneffnnpjgnbacDoor
open Go.RowKit

theorem readS_no {s : ByteArray} {ws : List ByteArray} {xs : List (Int × Int)} (h : wordR s.data.toList = none) : readS (s :: ws) xs = none := by rw [readS, h]
theorem readS_yes {s : ByteArray} {ws : List ByteArray} {xs : List (Int × Int)} {p : Int × Int} (h : wordR s.data.toList = some p) : readS (s :: ws) xs = readS ws (xs ++ [p]) := by rw [readS, h]
theorem wordR_len {w : List UInt8} (h : (spl 46 w []).length ≠ 3) : wordR w = none := by
  unfold wordR
  split
  · rename_i he; rw [he] at h; exact absurd rfl h
  · rfl
theorem wordR_three {w : List UInt8} {a b c : ByteArray} (h : spl 46 w [] = [a, b, c]) :
    wordR w = if b.size = 0 ∧ (numR a.data.toList).2 = true ∧ (numR c.data.toList).2 = true then some ((numR a.data.toList).1, (numR c.data.toList).1) else none := by unfold wordR; rw [h]
theorem three {α : Type} {l : List α} (h : l.length = 3) : ∃ a b c, l = [a, b, c] := by
  match l, h with
  | [a, b, c], _ => exact ⟨a, b, c, rfl⟩
theorem spl_le {b : UInt8} : ∀ (l cur : List UInt8), ∀ x ∈ spl b l cur, x.size ≤ cur.length + l.length
  | [], cur, x, h => by
    rw [spl] at h
    rw [List.mem_singleton.1 h, textS_size]; omega
  | c :: r, cur, x, h => by
    rw [spl] at h
    rw [List.length_cons]
    split at h
    · rcases List.mem_cons.1 h with rfl | h
      · rw [textS_size]; omega
      · have := spl_le r [] x h; simp at this; omega
    · have := spl_le r (cur ++ [c]) x h; simp at this; omega
theorem spl_count {b : UInt8} : ∀ (l cur : List UInt8), (spl b l cur).length ≤ l.length + 1
  | [], cur => by rw [spl]; simp
  | c :: r, cur => by
    rw [spl]
    split
    · have := spl_count (b := b) r []; simp; omega
    · have := spl_count (b := b) r (cur ++ [c]); simp; omega
theorem emptyB (q : ByteArray) : q.toList.isEmpty = decide (q.size = 0) := by
  rw [ByteArray.toList_eq, Bool.eq_iff_iff, List.isEmpty_iff, decide_eq_true_iff, ← List.length_eq_zero_iff, Array.length_toList]
  rfl
theorem split3_c (s : ByteArray) (hs : s.size ≤ 1048576) (a b c : ByteArray) (h : spl 46 s.data.toList [] = [a, b, c]) (X : World) :
    Calls Tryd.prog 35 #[.string s, .int .u8 46] X (fun e w' => ∃ b2 c2 g2, e = .returned (.slice (some ⟨b2, 0, none⟩) 3 c2) ∧ w' = ext X g2 ∧ X.heap.size ≤ b2 ∧ b2 < (ext X g2).heap.size ∧ 3 ≤ c2 ∧ c2 ≤ 9223372036854775807 ∧ farCell X g2 b2 0 = some (.string a) ∧ farCell X g2 b2 1 = some (.string b) ∧ farCell X g2 b2 2 = some (.string c)) := by
  have h1 := l01Split_c s 46 hs X
  rw [h] at h1
  refine h1.mono ?_
  rintro e w' ⟨v, g2, rfl, rfl, hown⟩
  obtain ⟨b2, c2, rfl, hb1, hb2, h3, h4, hc, -⟩ := own_far hown (Nat.zero_lt_succ _)
  unfold maxLen at h4
  exact ⟨b2, c2, g2, rfl, rfl, hb1, hb2, h3, by omega, hc 0 _ rfl, hc 1 _ rfl, hc 2 _ rfl⟩
theorem splitN_c (s : ByteArray) (hs : s.size ≤ 1048576) (h : (spl 46 s.data.toList []).length ≠ 3) (X : World) :
    Calls Tryd.prog 35 #[.string s, .int .u8 46] X (fun e w' => ∃ a n c g2, e = .returned (.slice a n c) ∧ w' = ext X g2 ∧ ((n : Int) != 3) = true ∧ n ≤ c ∧ c ≤ 9223372036854775807) := by
  refine (l01Split_c s 46 hs X).mono ?_
  rintro e w' ⟨v, g2, rfl, rfl, hown⟩
  obtain ⟨a, c, rfl, h1, h2⟩ := own_len hown
  unfold maxLen at h2
  exact ⟨a, _, c, g2, rfl, rfl, by simp; omega, h1, by omega⟩
set_option maxRecDepth 100000 in
set_option maxHeartbeats 8000000 in
theorem sReadWindows_c (l : List UInt8) (hl : l.length ≤ 1048576) (w : World) :
    Calls Tryd.prog 15 #[.string (textS l)] w (RetRow 54 2 (fun v => .tuple #[v, .bool (readW l).2]) (readW l).1.length (cel2.row (readW l).1) w) := by
  generalize hR : RetRow _ _ _ _ _ w = R
  have HR := Lib.hid hR
  clear hR
  have hz := textS_size l
  by_cases hl0 : l = []
  · subst hl0
    rw [show textS [] = ⟨#[]⟩ from rfl]
    have HR2 : Hid (RetRow 54 2 (fun v => .tuple #[v, .bool true]) 0 [] w = R) := HR
    clear HR hz
    go_enter Tryd.func15, Tryd.ntmps15
    go_wp2
    rw [← HR2.out]
    exact RetRow.mk' rfl (by (repeat (first | with_reducible exact Bel.refl _ | with_reducible assumption | apply Bel.ext | apply Bel.alloc | apply Bel.drew | exact Bel.refl _ | refine Bel.set ?_ (by first | (simp; done) | (simp [go_sem]; done) | omega) _)) : Bel _ _) (own_empty _ _ _ _ (Nat.le_refl _))
  have hem := emptyS hl0
  have hM := mem_lit (mem_nil w) 54 2 [] 0 rfl (by unfold maxLen; omega)
  have S1 := Lib.hid (fun x => l01Split_c (textS l) 32 (by rw [hz]; exact hl) x)
  rw [textS_data] at S1
  have hO1 : Hid (∀ x ∈ spl 32 l [], x.size ≤ 1048576) := Lib.hid (fun x hx => by have := spl_le l [] x hx; simp at this; omega)
  have hm2 := spl_count (b := 32) l []
  have hpos : 0 < (spl 32 l []).length := by obtain ⟨x, r, e⟩ := spl_ne 32 l []; rw [e]; simp
  have HV : Hid (∀ xs, readS (spl 32 l []) [] = some xs → readW l = if windowsB xs = true then (xs, true) else ([], false)) := Lib.hid (fun xs h => by
    unfold readW specR
    rw [if_neg hl0, h]
    dsimp only
    by_cases hw : windowsB xs = true
    · rw [if_pos hw, if_pos hw]
    · rw [if_neg hw, if_neg hw])
  have HN : Hid (readS (spl 32 l []) [] = none → readW l = ([], false)) := Lib.hid (fun h => by
    unfold readW specR
    rw [if_neg hl0, h])
  generalize spl 32 l [] = O at *
  generalize readW l = R0 at *
  generalize textS l = L at *
  obtain ⟨m, hm⟩ : ∃ m, m = O.length := ⟨_, rfl⟩
  have Hm := Lib.hid hm
  rw [← hm] at S1 hpos hm2
  clear hm
  go_enter Tryd.func15, Tryd.ntmps15
  go_wp2_with (first | (go_at_call 35; refine Calls.mono (mem_row hM ?_ (S1.out _)) ?_; (focus (repeat (first | with_reducible exact Bel.refl _ | with_reducible assumption | apply Bel.ext | apply Bel.alloc | apply Bel.drew | exact Bel.refl _))); rintro ee ww ⟨u, _, rfl, rfl, hM⟩; (try simp only [List.nil_append, List.cons_append, List.set_cons_zero, List.set_cons_succ] at hM)))
  have hw1 := hM.own 1 _ rfl
  dsimp only at hw1
  obtain ⟨b, c, rfl, hb1, hc1, hc2⟩ := own_strs hw1 hpos
  unfold maxLen at hc2
  clear hw1
  go_loopw [4, 6] (fun o i wr => ∃ (k n : Nat) (xs : List (Int × Int)), k ≤ m ∧ n ≤ k ∧ i = .int .i64 k ∧ Hid (n = xs.length) ∧ Hid (Mem w wr [⟨o, 54, 2, n, cel2.row xs⟩, ⟨.slice (some ⟨b, 0, none⟩) m c, 9, 1, m, celS.row O⟩]) ∧ Hid (readS O [] = readS (O.drop k) xs)) (fun _ i _ => m - (intOf i).toNat)
  case atStart => exact ⟨0, 0, [], Nat.zero_le _, Nat.le_refl _, rfl, Lib.hid rfl, Lib.hid hM, Lib.hid rfl⟩
  case round =>
    clear hM
    obtain ⟨k, n, xs, hk, hnk, rfl, hn, hm, hv⟩ := hrel
    have hM := hm.out
    clear hm
    have hbel := hM.bel
    by_cases hlt : k < m
    · have hr1 := hM.own 1 _ rfl
      dsimp only at hr1
      have hbw := (hr1.lt b rfl).2
      obtain ⟨s, hs⟩ : ∃ s, O[k]? = some s := ⟨_, List.getElem?_eq_getElem (by rw [← Hm.out]; exact hlt)⟩
      have hcell : wr.cell? ⟨b, k, none⟩ = some (.string s) := by
        have h8 := hr1.cells (g := b) rfl k (.string s) (by rw [row_strs, List.getElem?_map, hs]; rfl)
        rwa [addr_add, Nat.zero_add] at h8
      have hsz := hO1.out s (List.mem_of_getElem? hs)
      have hV := hv.out
      rw [drop_cons_of hs] at hV
      clear hr1 hs hv
      by_cases h3 : (spl 46 s.data.toList []).length = 3
      · obtain ⟨a, q, d, he⟩ := three h3
        have hle := spl_le (b := 46) s.data.toList []
        rw [he] at hle
        have z0 : s.data.toList.length = s.size := by simp
        have za := hle a (by simp)
        have zd := hle d (by simp)
        rw [List.length_nil, z0] at za zd
        have S3 := Lib.hid (split3_c s hsz a q d he wr)
        have N1 := Lib.hid (fun x => l01Number_c a (by omega) x)
        have N2 := Lib.hid (fun x => l01Number_c d (by omega) x)
        have hw := wordR_three he
        rcases h1 : numR a.data.toList with ⟨x, ok1⟩
        rcases h2 : numR d.data.toList with ⟨y, ok2⟩
        rw [h1] at N1 hw
        rw [h2] at N2 hw
        dsimp only at N1 N2 hw
        clear h1 h2 he h3 hle z0 za zd
        have hem2 := emptyB q
        by_cases hq : q.size = 0
        · rw [decide_eq_true hq] at hem2
          rcases ok1 with _ | _
          · rw [if_neg (by simp)] at hw
            rw [readS_no hw] at hV
            have hR2 := HN.out hV
            subst hR2
            clear hV hw hq
            go_wp2_with (first | (go_at_call 35; refine Calls.mono S3.out ?_; rintro ee ww ⟨b2, c2, g2, rfl, rfl, hb2, hb3, hc3, hc4, hf0, hf1, hf2⟩) | (go_at_call 36; refine args_g1 (.string a) (by with_reducible rfl) ?_; refine Calls.mono (N1.out _) ?_; rintro ee ww ⟨rfl, _, rfl⟩) | (go_at_call 36; refine args_g1 (.string d) (by with_reducible rfl) ?_; refine Calls.mono (N2.out _) ?_; rintro ee ww ⟨rfl, _, rfl⟩))
            rw [← HR.out]
            exact RetRow.mk' rfl (by (repeat (first | with_reducible exact Bel.refl _ | with_reducible assumption | apply Bel.ext | apply Bel.alloc | apply Bel.drew | exact Bel.refl _ | refine Bel.set ?_ (by first | (simp; done) | (simp [go_sem]; done) | omega) _)) : Bel _ _) (World.ownsRow_nil _ _ _ _)
          · rcases ok2 with _ | _
            · rw [if_neg (by simp)] at hw
              rw [readS_no hw] at hV
              have hR2 := HN.out hV
              subst hR2
              clear hV hw hq
              go_wp2_with (first | (go_at_call 35; refine Calls.mono S3.out ?_; rintro ee ww ⟨b2, c2, g2, rfl, rfl, hb2, hb3, hc3, hc4, hf0, hf1, hf2⟩) | (go_at_call 36; refine args_g1 (.string a) (by with_reducible rfl) ?_; refine Calls.mono (N1.out _) ?_; rintro ee ww ⟨rfl, _, rfl⟩) | (go_at_call 36; refine args_g1 (.string d) (by with_reducible rfl) ?_; refine Calls.mono (N2.out _) ?_; rintro ee ww ⟨rfl, _, rfl⟩))
              rw [← HR.out]
              exact RetRow.mk' rfl (by (repeat (first | with_reducible exact Bel.refl _ | with_reducible assumption | apply Bel.ext | apply Bel.alloc | apply Bel.drew | exact Bel.refl _ | refine Bel.set ?_ (by first | (simp; done) | (simp [go_sem]; done) | omega) _)) : Bel _ _) (World.ownsRow_nil _ _ _ _)
            · rw [if_pos ⟨hq, rfl, rfl⟩] at hw
              rw [readS_yes hw] at hV
              have HV3 := Lib.hid hV
              clear hV hw hq
              go_wp2_with (first | (go_at_call 35; refine Calls.mono S3.out ?_; rintro ee ww ⟨b2, c2, g2, rfl, rfl, hb2, hb3, hc3, hc4, hf0, hf1, hf2⟩) | (go_at_call 36; refine args_g1 (.string a) (by with_reducible rfl) ?_; refine Calls.mono (N1.out _) ?_; rintro ee ww ⟨rfl, _, rfl⟩) | (go_at_call 36; refine args_g1 (.string d) (by with_reducible rfl) ?_; refine Calls.mono (N2.out _) ?_; rintro ee ww ⟨rfl, _, rfl⟩) | (at_builtin; refine wpList_append_mem rfl (.tmp 58) (.tmp 62) 31 54 2 16 rfl appWindow (by decide) w _ 0 _ _ _ rfl 1 [.int .i64 x, .int .i64 y] rfl (by first | with_reducible rfl | (simp [go_sem]; done)) rfl (by intro u hu; simp at hu; first | (subst hu; rfl) | (rcases hu with rfl | rfl <;> rfl) | (rcases hu with rfl | rfl | rfl <;> rfl)) (mem_bel hM ?_) (by omega) (by omega) ?_; (focus (repeat (first | with_reducible exact Bel.refl _ | with_reducible assumption | apply Bel.ext | apply Bel.alloc | apply Bel.drew | exact Bel.refl _))); intro v2 g2 hM2; (try simp only [List.set_cons_zero, List.set_cons_succ] at hM2)))
              go_roundw
              case rel => exact ⟨k + 1, n + 1, xs ++ [(x, y)], by omega, by omega, by go_num, Lib.hid (by rw [List.length_append, hn.out]; rfl), Lib.hid (by rw [Cel.row_append, Cel.row_one]; exact hM2), HV3⟩
              case measure => simp [intOf]; omega
        · rw [if_neg (fun h => hq h.1)] at hw
          rw [decide_eq_false hq] at hem2
          rw [readS_no hw] at hV
          have hR2 := HN.out hV
          subst hR2
          clear hV hw hq
          go_wp2_with (first | (go_at_call 35; refine Calls.mono S3.out ?_; rintro ee ww ⟨b2, c2, g2, rfl, rfl, hb2, hb3, hc3, hc4, hf0, hf1, hf2⟩))
          rw [← HR.out]
          exact RetRow.mk' rfl (by (repeat (first | with_reducible exact Bel.refl _ | with_reducible assumption | apply Bel.ext | apply Bel.alloc | apply Bel.drew | exact Bel.refl _ | refine Bel.set ?_ (by first | (simp; done) | (simp [go_sem]; done) | omega) _)) : Bel _ _) (World.ownsRow_nil _ _ _ _)
      · rw [readS_no (wordR_len h3)] at hV
        have hR2 := HN.out hV
        subst hR2
        have S3 := Lib.hid (splitN_c s hsz h3 wr)
        clear hV h3
        go_wp2_with (first | (go_at_call 35; refine Calls.mono S3.out ?_; rintro ee ww ⟨a2, n2, c2, g2, rfl, rfl, hn2, hc3, hc4⟩))
        rw [← HR.out]
        exact RetRow.mk' rfl (by (repeat (first | with_reducible exact Bel.refl _ | with_reducible assumption | apply Bel.ext | apply Bel.alloc | apply Bel.drew | exact Bel.refl _ | refine Bel.set ?_ (by first | (simp; done) | (simp [go_sem]; done) | omega) _)) : Bel _ _) (World.ownsRow_nil _ _ _ _)
    · obtain rfl : k = m := by omega
      have hV := hv.out
      rw [List.drop_of_length_le (by rw [← Hm.out]; exact Nat.le_refl _), readS] at hV
      have hR2 := HV.out _ hV
      have hr0 := hM.own 0 _ rfl
      dsimp only at hr0
      have HO := Lib.hid (own_castY hr0 hn.out rfl)
      have HD := Lib.hid (rd_of_row HO.out)
      have HOk := Lib.hid (fun x (hx : Bel wr x) => l15Ok_c _ xs x (HD.out.bel hx))
      clear hV hr0 hv
      rcases h1 : windowsB xs with _ | _
      · rw [h1] at hR2 HOk
        simp only [Bool.not_true, Bool.not_false, if_true, if_false, Bool.false_eq_true] at hR2
        subst hR2
        clear h1
        go_wp2_with (first | (go_at_call 29; refine Calls.mono (HOk.out _ ?_) ?_; (focus (repeat (first | with_reducible exact Bel.refl _ | with_reducible assumption | apply Bel.ext | apply Bel.alloc | apply Bel.drew | exact Bel.refl _))); rintro ee ww ⟨rfl, _, rfl⟩))
        rw [← HR.out]
        exact RetRow.mk' rfl (by (repeat (first | with_reducible exact Bel.refl _ | with_reducible assumption | apply Bel.ext | apply Bel.alloc | apply Bel.drew | exact Bel.refl _ | refine Bel.set ?_ (by first | (simp; done) | (simp [go_sem]; done) | omega) _)) : Bel _ _) (World.ownsRow_nil _ _ _ _)
      · rw [h1] at hR2 HOk
        simp only [if_true] at hR2
        subst hR2
        clear h1
        go_wp2_with (first | (go_at_call 29; refine Calls.mono (HOk.out _ ?_) ?_; (focus (repeat (first | with_reducible exact Bel.refl _ | with_reducible assumption | apply Bel.ext | apply Bel.alloc | apply Bel.drew | exact Bel.refl _))); rintro ee ww ⟨rfl, _, rfl⟩))
        rw [← HR.out]
        exact RetRow.mk' rfl (by (repeat (first | with_reducible exact Bel.refl _ | with_reducible assumption | apply Bel.ext | apply Bel.alloc | apply Bel.drew | exact Bel.refl _ | refine Bel.set ?_ (by first | (simp; done) | (simp [go_sem]; done) | omega) _)) : Bel _ _) (own_bel HO.out (by (repeat (first | with_reducible exact Bel.refl _ | with_reducible assumption | apply Bel.ext | apply Bel.alloc | apply Bel.drew | exact Bel.refl _ | refine Bel.set ?_ (by first | (simp; done) | (simp [go_sem]; done) | omega) _))))
end Go.Proofs.YtdneffnnpjgnbacDoor
