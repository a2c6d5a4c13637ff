/- The longest windows of the times in both lists: impl.meet. -/
import Derived.Test.YtdneffnnpjgnbabLongest
namespace Go.Proofs.Ytdneffnnpjgnbab
open Go.RowKit

theorem bdW_both {x y p : Int × Int} (hx : bdW [x]) (hy : bdW [y]) (h : bothW x y = some p) : bdW [p] := by
  have a := hx x (by simp)
  have b := hy y (by simp)
  unfold bothW at h
  split at h
  · cases h
    intro p hp
    rw [List.mem_singleton.1 hp]
    exact ⟨by dsimp only; omega, by dsimp only; omega, by dsimp only; omega, by dsimp only; omega⟩
  · cases h
theorem bdW_meet {xs ys : List (Int × Int)} (hx : bdW xs) (hy : bdW ys) : bdW (meetP xs ys) := by
  intro p hp
  unfold meetP at hp
  obtain ⟨x, hxm, h⟩ := List.mem_flatMap.1 hp
  obtain ⟨y, hym, h⟩ := List.mem_filterMap.1 h
  exact bdW_both (fun q hq => by rw [List.mem_singleton.1 hq]; exact hx x hxm) (fun q hq => by rw [List.mem_singleton.1 hq]; exact hy y hym) h p (by simp)
theorem meetP_lens {xs ys : List (Int × Int)} (hx : xs.length ≤ 1000) (hy : ys.length ≤ 1000) : (meetP xs ys).length ≤ 1000000 := Nat.le_trans (meetP_len xs ys) (Nat.mul_le_mul hx hy)
/-- a box of a window, kept as a row -/
theorem row_box {w : World} {B b : Nat} {e : TypeId} {x y : Int} (h : w.ownsRow B e 2 (.slice (some ⟨b, 0, none⟩) 1 1) 1 [.int .i64 x, .int .i64 y]) : w.cell? ⟨b, 0, none⟩ = some (.int .i64 x) ∧ w.cell? ⟨b, 1, none⟩ = some (.int .i64 y) := by
  have h2 : w.ownsRow B e 2 (.slice (some ⟨b, 0, none⟩) 1 1) 1 (cel2.row [(x, y)]) := h
  obtain ⟨g0, g1, -⟩ := row_at2 h2 (k := 0) (x := x) (y := y) rfl
  rw [Nat.zero_mul] at g0 g1
  rw [Nat.zero_add] at g1
  exact ⟨g0, g1⟩

set_option maxRecDepth 100000 in
set_option maxHeartbeats 8000000 in
theorem meet_c (u v : Value) (xs ys : List (Int × Int)) (hx : xs.length ≤ 1000) (hy : ys.length ≤ 1000) (hbx : bdW xs) (hby : bdW ys) (w : World) (hu : Rd cel2 w u xs) (hv : Rd cel2 w v ys) :
    Calls Try.prog 30 #[u, v] w (RetRow 35 2 (fun v => v) (longL' (meetP xs ys)).length (cel2.row (longL' (meetP xs ys))) w) := by
  generalize hR : RetRow _ _ _ _ _ w = R
  have HR := Lib.hid hR
  clear hR
  have HBX := Lib.hid hbx
  have HBY := Lib.hid hby
  clear hbx hby
  obtain ⟨a, n, c, rfl, hs⟩ := hu.sl
  obtain ⟨a', n', c', rfl, hs'⟩ := hv.sl
  have hcap := hs.le; have hmax := hs.cap; have hcap' := hs'.le; have hmax' := hs'.cap
  unfold maxLen at hmax hmax'
  have HL := Lib.hid hs.len
  have HL' := Lib.hid hs'.len
  have HS := Lib.hid (fun x (hx : Bel w x) => hs.bel hx)
  have HS' := Lib.hid (fun x (hx : Bel w x) => hs'.bel hx)
  clear hs hs' hu hv
  have hn : n ≤ 1000 := by rw [HL.out]; exact hx
  have hn' : n' ≤ 1000 := by rw [HL'.out]; exact hy
  go_enter Try.func30, Try.ntmps30
  go_wp2
  go_loopw [5, 15] (fun o i wr => ∃ k : Nat, k ≤ n ∧ i = .int .i64 k ∧ Hid (Mem w wr [⟨o, 35, 2, (meetP (xs.take k) ys).length, cel2.row (meetP (xs.take k) ys)⟩])) (fun _ i _ => n - (intOf i).toNat)
  case atStart => exact ⟨0, Nat.zero_le _, rfl, Lib.hid (mem_lit (mem_nil w) 35 2 [] 0 rfl (by unfold maxLen; omega))⟩
  case round =>
    obtain ⟨k, hk, rfl, hm⟩ := hrel
    have hM := hm.out
    clear hm
    have hbw := hM.bel
    by_cases hlt : k < n
    · have hs1 := HS.out wr hbw
      obtain ⟨b, off, rfl, hb⟩ := hs1.base hlt
      obtain ⟨x, y, hxk, hc0, hc1⟩ := hs1.at2 hlt
      clear hs1
      have hxb := HBX.out (x, y) (List.mem_of_getElem? hxk.out)
      have HXB := Lib.hid (show bdW [(x, y)] from fun q hq => by rw [List.mem_singleton.1 hq]; exact hxb)
      have HP := Lib.hid (meetP_succ (b := ys) hxk.out)
      have hpl : (meetP (xs.take k) ys).length ≤ 1000000 := meetP_lens (by rw [List.length_take]; omega) hy
      generalize meetP (xs.take k) ys = P at HP hM hpl
      have hM1 := mem_lit hM 35 2 [.int .i64 x, .int .i64 y] 1 rfl (by unfold maxLen; omega)
      simp only [List.cons_append, List.nil_append] at hM1
      have HM1 := Lib.hid hM1
      clear hM1 hM hxb
      go_wp2
      generalize wr.heap.size = px at HM1 ⊢
      go_loopw [5, 21] (fun o i wr => ∃ j : Nat, j ≤ n' ∧ i = .int .i64 j ∧ Hid (Mem w wr [⟨o, 35, 2, (P ++ (ys.take j).filterMap (bothW (x, y))).length, cel2.row (P ++ (ys.take j).filterMap (bothW (x, y)))⟩, ⟨.slice (some ⟨px, 0, none⟩) 1 1, 35, 2, 1, [.int .i64 x, .int .i64 y]⟩])) (fun _ i _ => n' - (intOf i).toNat)
      case atStart => exact ⟨0, Nat.zero_le _, rfl, Lib.hid (by simp only [List.take_zero, List.filterMap_nil, List.append_nil]; exact HM1.out)⟩
      case round =>
        clear HM1
        obtain ⟨j, hj, rfl, hm⟩ := hrel
        have hM := hm.out
        clear hm
        have hbw2 := hM.bel
        obtain ⟨p0, p1⟩ := row_box (hM.own 1 _ rfl)
        have hplt := ((hM.own 1 _ rfl).lt px rfl).2
        by_cases hlt2 : j < n'
        · have hs2 := HS'.out wr hbw2
          obtain ⟨b', off', rfl, hb'⟩ := hs2.base hlt2
          obtain ⟨x', y', hyk, hd0, hd1⟩ := hs2.at2 hlt2
          clear hs2
          have hjl : (P ++ (ys.take j).filterMap (bothW (x, y))).length ≤ 2000000 := by
            have := filterMap_le (bothW (x, y)) (ys.take j)
            rw [List.length_take] at this
            rw [List.length_append]; omega
          have hY : Bel wr (wr.alloc (.cells #[.int .i64 x', .int .i64 y'] 35)) := by (repeat (first | with_reducible exact Bel.refl _ | with_reducible assumption | apply Bel.ext | apply Bel.alloc | apply Bel.drew | exact Bel.refl _ | refine Bel.set ?_ (by first | (simp; done) | (simp [go_sem]; done) | omega) _))
          have hMY := mem_bel hM hY
          have q0 : (wr.alloc (.cells #[.int .i64 x', .int .i64 y'] 35)).cell? ⟨wr.heap.size, 0, none⟩ = some (.int .i64 x') := by simp [go_sem]
          have q1 : (wr.alloc (.cells #[.int .i64 x', .int .i64 y'] 35)).cell? ⟨wr.heap.size, 1, none⟩ = some (.int .i64 y') := by simp [go_sem]
          have r0 : (wr.alloc (.cells #[.int .i64 x', .int .i64 y'] 35)).cell? ⟨px, 0, none⟩ = some (.int .i64 x) := (hY.cell (p := ⟨px, 0, none⟩) hplt).trans p0
          have r1 : (wr.alloc (.cells #[.int .i64 x', .int .i64 y'] 35)).cell? ⟨px, 1, none⟩ = some (.int .i64 y) := (hY.cell (p := ⟨px, 1, none⟩) hplt).trans p1
          have HMY := Lib.hid hMY
          clear hMY hM p0 p1 hY
          by_cases hft : max x x' ≤ min y y'
          · have HB := Lib.hid (both_yes (x := (x, y)) (p := (max x x', min y y')) hyk.out (by unfold bothW; rw [if_pos (by exact hft)]))
            go_wp2_with fail
            clear hd0 hd1
            generalize wr.alloc (.cells #[.int .i64 x', .int .i64 y'] 35) = Y at *
            go_region
            have hM := mem_bel HMY.out ((Bel.refl Y).drew)
            clear HMY q0 q1 r0 r1
            generalize Y.drew = Y2 at *
            go_wp2_with (first | (at_builtin; refine wpList_append_mem rfl (.tmp 38) (.tmp 42) 24 35 2 16 rfl appWindow (by decide) w _ 0 _ _ _ rfl 1 [.int .i64 (max x x'), .int .i64 (min y y')] rfl (by first | with_reducible rfl | (simp [go_sem]; done)) rfl (by intro u hu; simp at hu; first | (subst hu; rfl) | (rcases hu with rfl | rfl <;> rfl) | (rcases hu with rfl | rfl | rfl <;> rfl)) (mem_bel hM ?_) (by omega) (by omega) ?_; (focus (repeat (first | with_reducible exact Bel.refl _ | with_reducible assumption | apply Bel.ext | apply Bel.alloc | apply Bel.drew | exact Bel.refl _))); intro v2 g2 hM; (try simp only [List.set_cons_zero, List.set_cons_succ] at hM)))
            go_roundw
            case rel =>
              refine ⟨j + 1, by omega, by go_num, Lib.hid ?_⟩
              rw [HB.out, ← List.append_assoc, Cel.row_append _ (P ++ _), Cel.row_one, List.length_append (bs := [_])]
              exact hM
            case measure => simp [intOf]; omega
          · have HB := Lib.hid (both_no (x := (x, y)) hyk.out (by unfold bothW; rw [if_neg (by exact hft)]))
            go_wp2_with fail
            clear hd0 hd1
            generalize wr.alloc (.cells #[.int .i64 x', .int .i64 y'] 35) = Y at *
            go_region
            have hM := mem_bel HMY.out ((Bel.refl Y).drew)
            clear HMY q0 q1 r0 r1
            generalize Y.drew = Y2 at *
            go_wp2
            go_roundw
            case rel =>
              refine ⟨j + 1, by omega, by go_num, Lib.hid ?_⟩
              rw [HB.out]
              exact hM
            case measure => simp [intOf]; omega
        · have hj' : j = n' := by omega
          rw [hj', HL'.out, List.take_of_length_le (Nat.le_refl _), ← HP.out] at hM
          have HM2 := Lib.hid (show Mem w wr [⟨_, 35, 2, _, _⟩] from ⟨hM.bel, fun i r hi => hM.own i r (by rcases i with _ | i; exact hi; simp at hi), fun i j r s hi hj hij => hM.apart i j r s (by rcases i with _ | i; exact hi; simp at hi) (by rcases j with _ | j; exact hj; simp at hj) hij⟩)
          clear hM p0 p1
          go_wp2
          go_roundw
          case rel => exact ⟨k + 1, by omega, by go_num, HM2⟩
          case measure => simp [intOf]; omega
    · have hk' : k = n := by omega
      rw [hk', HL.out, List.take_of_length_le (Nat.le_refl _)] at hM
      have hrow := hM.own 0 _ rfl
      dsimp only at hrow
      have hc := fun W hW => longest_c _ (meetP xs ys) (meetP_lens hx hy) (meetP_ok xs ys) (bdW_meet HBX.out HBY.out) W ((rd_of_row (C := cel2) hrow).bel hW)
      have HC := Lib.hid hc
      clear hc hrow hM
      go_wp2_with (go_at_call 29; refine Calls.mono (HC.out _ ?_) ?_; (focus (repeat (first | with_reducible exact Bel.refl _ | with_reducible assumption | apply Bel.ext | apply Bel.alloc | apply Bel.drew | exact Bel.refl _))); rintro ee ww ⟨v, g, rfl, rfl, hown⟩)
      rw [← HR.out]
      exact RetRow.mk' rfl (Below.trans hbw (Below.mono (ext_below _ _) hbw.size)) (own_mono hown hbw.size)
end Go.Proofs.Ytdneffnnpjgnbab
