/- The longest windows of the times in one list, but not in another one: impl.without. -/
import Derived.Test.YtdneffnnpjgnbabMeet
namespace Go.Proofs.Ytdneffnnpjgnbab
open Go.RowKit

def vW (zs : List (Int × Int)) : Prop := ∀ p ∈ zs, 0 ≤ p.1 ∧ p.1 ≤ p.2 ∧ p.2 ≤ 10000000
theorem vW_ok {zs : List (Int × Int)} (h : vW zs) : okW zs := fun p hp => (h p hp).2.1
theorem vW_bd {zs : List (Int × Int)} (h : vW zs) : bdW zs := fun p hp => by have := h p hp; omega
theorem vW_long {zs : List (Int × Int)} (h : vW zs) : vW (longL' zs) := by
  obtain ⟨h1, h2⟩ := longL_law (vW_ok h)
  intro p hp
  have ho := h1.1 p hp
  obtain ⟨q, hq, q1, q2⟩ := (h2 p.1).1 ⟨p, hp, Int.le_refl _, ho⟩
  obtain ⟨r, hr, r1, r2⟩ := (h2 p.2).1 ⟨p, hp, ho, Int.le_refl _⟩
  have := h q hq
  have := h r hr
  omega
theorem vW_rest : ∀ (cs : List (Int × Int)) (f : Int), vW cs → 0 ≤ f → vW (restG cs f)
  | [], f, _, h0 => by
    unfold restG
    split
    · intro p hp
      rw [List.mem_singleton.1 hp]
      exact ⟨h0, by assumption, Int.le_refl _⟩
    · intro p hp; cases hp
  | w :: r, f, h, h0 => by
    have hw := h w (by simp)
    have ih := vW_rest r (w.2 + 1) (fun p hp => h p (by simp [hp])) (by omega)
    unfold restG
    split
    · intro p hp
      rcases List.mem_cons.1 hp with rfl | hp
      · exact ⟨h0, by dsimp only; omega, by dsimp only; omega⟩
      · exact ih p hp
    · exact ih
theorem restG_lt {x y f : Int} {r : List (Int × Int)} (h : f < x) : restG ((x, y) :: r) f = (f, x - 1) :: restG r (y + 1) := by rw [restG, if_pos h]
theorem restG_ge {x y f : Int} {r : List (Int × Int)} (h : ¬ f < x) : restG ((x, y) :: r) f = restG r (y + 1) := by rw [restG, if_neg h]
def withoutL (xs ys : List (Int × Int)) : List (Int × Int) := longL' (meetP xs (restG (longL' ys) 0))

set_option maxRecDepth 100000 in
set_option maxHeartbeats 8000000 in
theorem without_c (u v : Value) (xs ys : List (Int × Int)) (hx : xs.length ≤ 1000) (hy : ys.length ≤ 900) (hbx : bdW xs) (hvy : vW ys) (w : World) (hu : Rd cel2 w u xs) (hv : Rd cel2 w v ys) :
    Calls Try.prog 24 #[u, v] w (RetRow 35 2 (fun v => v) (withoutL xs ys).length (cel2.row (withoutL xs ys)) w) := by
  generalize hR : RetRow _ _ _ _ _ w = R
  have HR := Lib.hid hR
  clear hR
  have HB := Lib.hid (And.intro hbx (vW_long hvy))
  have hrl : (restG (longL' ys) 0).length ≤ 1000 := by have := restG_len (longL' ys) 0; have := longL_len' ys; omega
  have HRL := Lib.hid hrl
  clear hrl
  have HU := Lib.hid (fun x (hx : Bel w x) => hu.bel hx)
  have HLG := Lib.hid (fun x (hx : Bel w x) => longest_c v ys (by omega) (vW_ok hvy) (vW_bd hvy) x (hv.bel hx))
  have hcl : (longL' ys).length ≤ 900 := Nat.le_trans (longL_len' ys) hy
  clear hbx hvy hu hv
  generalize hcs : longL' ys = cs at HB HRL HLG hcl
  have HCS := Lib.hid hcs
  clear hcs
  have hM0 := mem_lit (mem_nil w) 35 2 [] 0 rfl (by unfold maxLen; omega)
  simp only [List.nil_append] at hM0
  have HM0 := Lib.hid hM0
  clear hM0
  go_enter Try.func24, Try.ntmps24
  go_wp2_with (go_at_call 29; refine Calls.mono (mem_row HM0.out ?_ (HLG.out _ ?_)) ?_; (focus (repeat (first | with_reducible exact Bel.refl _ | with_reducible assumption | apply Bel.ext | apply Bel.alloc | apply Bel.drew | exact Bel.refl _))); (focus (repeat (first | with_reducible exact Bel.refl _ | with_reducible assumption | apply Bel.ext | apply Bel.alloc | apply Bel.drew | exact Bel.refl _))); rintro ee ww ⟨vv, g, rfl, rfl, hM⟩; obtain ⟨a1, c1, rfl, hnc, hcm⟩ := own_len (show (ext w g).ownsRow w.heap.size 35 2 vv cs.length (cel2.row cs) from hM.own 1 _ rfl); have HM := Lib.hid hM; clear hM)
  unfold maxLen at hcm
  have HM1 := HM.out
  simp only [List.cons_append, List.nil_append] at HM1
  clear HM
  go_loopw [5, 6, 13] (fun o f i wr => ∃ (k : Nat) (fi : Int) (rs : List (Int × Int)), k ≤ cs.length ∧ i = .int .i64 k ∧ f = .int .i64 fi ∧ 0 ≤ fi ∧ fi ≤ 10000001 ∧ rs.length ≤ k ∧ Hid (restG cs 0 = rs ++ restG (cs.drop k) fi) ∧ Hid (Mem w wr [⟨o, 35, 2, rs.length, cel2.row rs⟩, ⟨.slice a1 cs.length c1, 35, 2, cs.length, cel2.row cs⟩])) (fun _ _ i _ => cs.length - (intOf i).toNat)
  case atStart => exact ⟨0, 0, [], Nat.zero_le _, rfl, rfl, by omega, by omega, Nat.le_refl _, Lib.hid rfl, Lib.hid HM1⟩
  case round =>
    clear HM1
    obtain ⟨k, f, rs, hk, rfl, rfl, hf1, hf2, hrs, hrest, hm⟩ := hrel
    have hM := hm.out
    clear hm
    have hbw := hM.bel
    by_cases hlt : k < cs.length
    · obtain ⟨b1, cc, hv, hb1, hb1s, -, -⟩ := row_base (hM.own 1 _ rfl) (show 0 < cs.length by omega)
      cases hv
      obtain ⟨⟨x, y⟩, hx⟩ : ∃ p, cs[k]? = some p := ⟨cs[k], by simp⟩
      obtain ⟨d0, d1, df⟩ := row_at2 (hM.own 1 _ rfl) hx
      have hxb := HB.out.2 (x, y) (List.mem_of_getElem? hx)
      dsimp only at hxb
      obtain ⟨x1, x2, x3⟩ := hxb
      have HD := Lib.hid (drop_cons_of hx)
      clear hx df
      have hM1 := mem_lit hM 35 2 [.int .i64 x, .int .i64 y] 1 rfl (by unfold maxLen; omega)
      simp only [List.cons_append, List.nil_append] at hM1
      by_cases hfx : f < x
      · have HE := Lib.hid (show restG cs 0 = (rs ++ [(f, x - 1)]) ++ restG (cs.drop (k + 1)) (y + 1) by rw [hrest.out, HD.out, restG_lt hfx]; simp)
        clear hM hrest
        go_wp2_with (first | ((at_builtin; refine wpList_append_mem rfl (.tmp 21) (.tmp 27) 24 35 2 16 rfl appWindow (by decide) w _ 0 _ _ _ rfl 1 [.int .i64 f, .int .i64 (x - 1)] rfl (by first | with_reducible rfl | (simp [go_sem]; done)) rfl (by intro u hu; simp at hu; first | (subst hu; rfl) | (rcases hu with rfl | rfl <;> rfl) | (rcases hu with rfl | rfl | rfl <;> rfl)) (mem_bel hM1 ?_) (by omega) (by omega) ?_; (focus (repeat (first | with_reducible exact Bel.refl _ | with_reducible assumption | apply Bel.ext | apply Bel.alloc | apply Bel.drew | exact Bel.refl _))); intro v2 g2 hM; (try simp only [List.set_cons_zero, List.set_cons_succ] at hM)); generalize ext w g2 = Y3 at hM ⊢; obtain ⟨p0, p1⟩ := row_box (hM.own 2 _ rfl); have HM := Lib.hid hM; clear hM))
        go_roundw
        case rel =>
          refine ⟨k + 1, y + 1, rs ++ [(f, x - 1)], by omega, by go_num, rfl, by omega, by omega, by simp; omega, HE, Lib.hid ?_⟩
          rw [Cel.row_append, Cel.row_one, List.length_append]
          have hM := HM.out
          exact ⟨hM.bel, fun i r hi => hM.own i r (by rcases i with _ | _ | i; exact hi; exact hi; simp at hi), fun i j r s hi hj hij => hM.apart i j r s (by rcases i with _ | _ | i; exact hi; exact hi; simp at hi) (by rcases j with _ | _ | j; exact hj; exact hj; simp at hj) hij⟩
        case measure => simp [intOf]; omega
      · have HE := Lib.hid (show restG cs 0 = rs ++ restG (cs.drop (k + 1)) (y + 1) by rw [hrest.out, HD.out, restG_ge hfx])
        clear hM hrest
        have HM := Lib.hid hM1
        clear hM1
        go_wp2
        go_roundw
        case rel =>
          refine ⟨k + 1, y + 1, rs, by omega, by go_num, rfl, by omega, by omega, by omega, HE, Lib.hid ?_⟩
          have hM := HM.out
          exact ⟨hM.bel, fun i r hi => hM.own i r (by rcases i with _ | _ | i; exact hi; exact hi; simp at hi), fun i j r s hi hj hij => hM.apart i j r s (by rcases i with _ | _ | i; exact hi; exact hi; simp at hi) (by rcases j with _ | _ | j; exact hj; exact hj; simp at hj) hij⟩
        case measure => simp [intOf]; omega
    · have hk' : k = cs.length := by omega
      have hdr : cs.drop k = [] := List.drop_of_length_le (by omega)
      have hre := hrest.out
      rw [hdr] at hre
      clear hrest hdr
      have hvr := vW_rest cs 0 HB.out.2 (by omega)
      by_cases hfm : f ≤ 10000000
      · have HE := Lib.hid (show restG cs 0 = rs ++ [(f, 10000000)] by rw [hre, restG, if_pos hfm])
        clear hre
        have HC := Lib.hid (fun W o hb hrow => meet_c _ o xs (restG cs 0) hx HRL.out HB.out.1 (vW_bd hvr) W (HU.out W hb) (rd_of_row (C := cel2) (B := w.heap.size) (e := 35) hrow))
        clear hvr
        go_wp2_with (first | ((at_builtin; refine wpList_append_mem rfl (.tmp 35) (.tmp 38) 24 35 2 16 rfl appWindow (by decide) w _ 0 _ _ _ rfl 1 [.int .i64 f, .int .i64 10000000] rfl (by first | with_reducible rfl | (simp [go_sem]; done)) rfl (by intro u hu; simp at hu; first | (subst hu; rfl) | (rcases hu with rfl | rfl <;> rfl) | (rcases hu with rfl | rfl | rfl <;> rfl)) (mem_bel hM ?_) (by omega) (by omega) ?_; (focus (repeat (first | with_reducible exact Bel.refl _ | with_reducible assumption | apply Bel.ext | apply Bel.alloc | apply Bel.drew | exact Bel.refl _))); intro v2 g2 hM; (try simp only [List.set_cons_zero, List.set_cons_succ] at hM)); have HM := Lib.hid hM; clear hM) | (go_at_call 30; refine Calls.mono (HC.out _ _ ?_ ?_) ?_; (focus (repeat (first | with_reducible exact Bel.refl _ | with_reducible assumption | apply Bel.ext | apply Bel.alloc | apply Bel.drew | exact Bel.refl _))); (have h0 := HM.out.own 0 _ rfl; dsimp only at h0; rw [HE.out, Cel.row_append, Cel.row_one, List.length_append]; exact h0); rintro ee ww ⟨v, g, rfl, rfl, hown⟩))
        rw [← HR.out]
        refine RetRow.mk' rfl (by (repeat (first | with_reducible exact Bel.refl _ | with_reducible assumption | apply Bel.ext | apply Bel.alloc | apply Bel.drew | exact Bel.refl _ | refine Bel.set ?_ (by first | (simp; done) | (simp [go_sem]; done) | omega) _)) : Bel _ _) ?_
        rw [withoutL, HCS.out]
        exact own_mono hown (ext_size _ _)
      · have HE := Lib.hid (show restG cs 0 = rs by rw [hre, restG, if_neg hfm, List.append_nil])
        clear hre
        have HC := Lib.hid (fun W o hb hrow => meet_c _ o xs (restG cs 0) hx HRL.out HB.out.1 (vW_bd hvr) W (HU.out W hb) (rd_of_row (C := cel2) (B := w.heap.size) (e := 35) hrow))
        have HM := Lib.hid hM
        clear hvr hM
        go_wp2_with (go_at_call 30; refine Calls.mono (HC.out _ _ ?_ ?_) ?_; (focus (repeat (first | with_reducible exact Bel.refl _ | with_reducible assumption | apply Bel.ext | apply Bel.alloc | apply Bel.drew | exact Bel.refl _))); (have h0 := HM.out.own 0 _ rfl; dsimp only at h0; rw [HE.out]; exact h0); rintro ee ww ⟨v, g, rfl, rfl, hown⟩)
        rw [← HR.out]
        refine RetRow.mk' rfl (Below.trans hbw (Below.mono (ext_below _ _) hbw.size)) ?_
        rw [withoutL, HCS.out]
        exact own_mono hown hbw.size
end Go.Proofs.Ytdneffnnpjgnbab
