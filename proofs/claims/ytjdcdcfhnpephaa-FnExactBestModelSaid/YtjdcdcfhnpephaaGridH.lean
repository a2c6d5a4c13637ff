/- What the laws' helpers on grids do. -/
import Derived.Test.YtjdcdcfhnpephaaGrid3
namespace Go.Proofs.Ytjdcdcfhnpephaa
open Go.RowKit

set_option maxHeartbeats 1000000 in
theorem szInt64G_c (a : Option Addr) (n c : Nat) (l : Int) (h1 : 0 ≤ l) (h2 : l ≤ 1000000000000) (h3 : n ≤ 9223372036854775807) (w : World) :
    Calls Try.prog 71 #[.slice a n c, .int .i64 l] w (Same (.int .i64 (if l < n then -1 else l - n)) w) := by
  refine hide_same fun v H => ?_
  by_cases h : l < n
  all_goals
    go_enter Try.func71, Try.ntmps71
    go_wp2
    go_ret
    refine Same.mk ?_; first | (rw [← H.out, if_pos h]; rfl) | (rw [← H.out, if_neg (by omega)]; rfl)
set_option maxHeartbeats 1000000 in
theorem szGrid_c (a1 a2 a3 : Option Addr) (n1 c1 n2 c2 n3 c3 : Nat) (l : Int) (h1 : 0 ≤ l) (h2 : l ≤ 1000000000000) (m1 : n1 ≤ 9223372036854775807) (m2 : n2 ≤ 9223372036854775807) (m3 : n3 ≤ 9223372036854775807) (w : World) :
    Calls Try.prog 35 #[.agg #[.slice a1 n1 c1, .slice a2 n2 c2, .slice a3 n3 c3], .int .i64 l] w (Ret (.int .i64 (if l < (n1 : Int) + n2 + n3 then -1 else l - n1 - n2 - n3)) w) := by
  refine hide_ret fun v H => ?_
  have S1 := Lib.hid (fun w => szInt64G_c a1 n1 c1 l h1 h2 m1 w)
  by_cases q1 : l < n1
  · rw [if_pos (by omega)] at H
    rw [if_pos q1] at S1
    go_enter Try.func35, Try.ntmps35
    go_wp2_with (first | (go_at_call 71; refine Calls.mono (S1.out _) ?_; rintro ee ww ⟨rfl, rfl⟩))
    go_ret
    refine Ret.mk ?_ (?_ : Bel _ _)
    · exact H.out
    · (repeat (first | with_reducible exact Bel.refl _ | with_reducible assumption | apply Bel.ext | apply Bel.alloc | apply Bel.drew | exact Bel.refl _ | refine Bel.set ?_ (by first | (simp; done) | (simp [go_sem]; done) | omega) _))
  rw [if_neg q1] at S1
  have S2 := Lib.hid (fun w => szInt64G_c a2 n2 c2 (l - n1) (by omega) (by omega) m2 w)
  by_cases q2 : l - n1 < n2
  · rw [if_pos (by omega)] at H
    rw [if_pos q2] at S2
    go_enter Try.func35, Try.ntmps35
    go_wp2_with fail
    refine Calls.mono (S1.out _) ?_
    rintro ee ww ⟨rfl, rfl⟩
    go_wp2_with fail
    refine Calls.mono (S2.out _) ?_
    rintro ee ww ⟨rfl, rfl⟩
    go_wp2
    go_ret
    refine Ret.mk ?_ (?_ : Bel _ _)
    · exact H.out
    · (repeat (first | with_reducible exact Bel.refl _ | with_reducible assumption | apply Bel.ext | apply Bel.alloc | apply Bel.drew | exact Bel.refl _ | refine Bel.set ?_ (by first | (simp; done) | (simp [go_sem]; done) | omega) _))
  rw [if_neg q2] at S2
  have S3 := Lib.hid (fun w => szInt64G_c a3 n3 c3 (l - n1 - n2) (by omega) (by omega) m3 w)
  by_cases q3 : l - n1 - n2 < n3
  · rw [if_pos (by omega)] at H
    rw [if_pos q3] at S3
    go_enter Try.func35, Try.ntmps35
    go_wp2_with fail
    refine Calls.mono (S1.out _) ?_
    rintro ee ww ⟨rfl, rfl⟩
    go_wp2_with fail
    refine Calls.mono (S2.out _) ?_
    rintro ee ww ⟨rfl, rfl⟩
    go_wp2_with fail
    refine Calls.mono (S3.out _) ?_
    rintro ee ww ⟨rfl, rfl⟩
    go_wp2
    go_ret
    refine Ret.mk ?_ (?_ : Bel _ _)
    · exact H.out
    · (repeat (first | with_reducible exact Bel.refl _ | with_reducible assumption | apply Bel.ext | apply Bel.alloc | apply Bel.drew | exact Bel.refl _ | refine Bel.set ?_ (by first | (simp; done) | (simp [go_sem]; done) | omega) _))
  rw [if_neg q3] at S3
  rw [if_neg (by omega)] at H
  go_enter Try.func35, Try.ntmps35
  go_wp2_with fail
  refine Calls.mono (S1.out _) ?_
  rintro ee ww ⟨rfl, rfl⟩
  go_wp2_with fail
  refine Calls.mono (S2.out _) ?_
  rintro ee ww ⟨rfl, rfl⟩
  go_wp2_with fail
  refine Calls.mono (S3.out _) ?_
  rintro ee ww ⟨rfl, rfl⟩
  go_wp2
  go_ret
  refine Ret.mk ?_ (?_ : Bel _ _)
  · exact H.out
  · (repeat (first | with_reducible exact Bel.refl _ | with_reducible assumption | apply Bel.ext | apply Bel.alloc | apply Bel.drew | exact Bel.refl _ | refine Bel.set ?_ (by first | (simp; done) | (simp [go_sem]; done) | omega) _))
theorem mem_own_add {W X x : World} {L : List Ent} (h : Mem W X L) (hb : Bel X x) (v : Value) (e : TypeId) (size n : Nat) (cs : List Value) (ho : x.ownsRow X.heap.size e size v n cs) : Mem W x (L ++ [⟨v, e, size, n, cs⟩]) := by
  refine mem_snoc (mem_bel h hb) _ (own_mono ho h.bel.size) fun j s hj b hb1 hb2 => ?_
  have h1 := ((h.own j s hj).lt b hb1).2
  have h2 := (ho.lt b hb2).1
  omega
def Above (B : Nat) (L : List Ent) : Prop := ∀ (i : Nat) (r : Ent), L[i]? = some r → ∀ q, r.v.ownBlock = some q → B ≤ q
theorem above_nil (B : Nat) : Above B [] := fun i r h => by simp at h
theorem above_add {B : Nat} {L : List Ent} {x : World} {C : Nat} {v : Value} {e : TypeId} {size n : Nat} {cs : List Value} (h : Above B L) (ho : x.ownsRow C e size v n cs) (hB : B ≤ C) : Above B (L ++ [⟨v, e, size, n, cs⟩]) := by
  intro i r hi q hq
  rcases Nat.lt_or_ge i L.length with hl | hl
  · rw [List.getElem?_append_left hl] at hi; exact h i r hi q hq
  · rw [List.getElem?_append_right hl] at hi
    rcases Nat.eq_zero_or_pos (i - L.length) with h0 | h0
    · rw [h0] at hi; simp at hi; subst hi
      exact Nat.le_trans hB (ho.lt q hq).1
    · rw [List.getElem?_eq_none (by simp; omega)] at hi; cases hi
theorem mem_set_low {W X : World} {L : List Ent} {B b j : Nat} {u : Value} (h : Mem W X L) (ha : Above B L) (h1 : W.heap.size ≤ b) (h2 : b < B) : Mem W (X.setCell ⟨b, j, none⟩ u) L := by
  refine ⟨Bel.set h.bel h1 u, fun i r hi => ?_, h.apart⟩
  refine (h.own i r hi).kept (set_grown X b j u) ?_
  cases hv : r.v.ownBlock with
  | none => exact .inl rfl
  | some q => exact .inr (fun e => by have := ha i r hi q hv; simp at e; omega)
set_option maxHeartbeats 2000000 in
theorem toGrid_c (u1 u2 u3 : Value) (A B C : List Int) (w : World) (h1 : Rd celI w u1 A) (h2 : Rd celI w u2 B) (h3 : Rd celI w u3 C) (l1 : A.length ≤ 1000000000) (l2 : B.length ≤ 1000000000) (l3 : C.length ≤ 1000000000) :
    Calls Try.prog 37 #[.agg #[u1, u2, u3]] w fun en w' => ∃ v1 v2 v3 g, en = .returned (.agg #[v1, v2, v3]) ∧ w' = ext w g ∧ Mem w (ext w g) [⟨v1, 2, 1, A.length, celI.row A⟩, ⟨v2, 2, 1, B.length, celI.row B⟩, ⟨v3, 2, 1, C.length, celI.row C⟩] := by
  generalize hR : (fun (en : Ending) (w' : World) => ∃ v1 v2 v3 g, en = .returned (.agg #[v1, v2, v3]) ∧ w' = ext w g ∧ Mem w (ext w g) [⟨v1, 2, 1, A.length, celI.row A⟩, ⟨v2, 2, 1, B.length, celI.row B⟩, ⟨v3, 2, 1, C.length, celI.row C⟩]) = R
  have HR := Lib.hid hR
  clear hR
  obtain ⟨a1, n1, c1, rfl, s1⟩ := h1.sl
  obtain ⟨a2, n2, c2, rfl, s2⟩ := h2.sl
  obtain ⟨a3, n3, c3, rfl, s3⟩ := h3.sl
  clear s1 s2 s3
  go_enter Try.func37, Try.ntmps37
  go_wp2_with fail
  refine Calls.mono (toInt64S_c _ A _ (h1.bel ?_) l1) ?_
  · (repeat (first | with_reducible exact Bel.refl _ | with_reducible assumption | apply Bel.ext | apply Bel.alloc | apply Bel.drew | exact Bel.refl _ | refine Bel.set ?_ (by first | (simp; done) | (simp [go_sem]; done) | omega) _))
  rintro ee ww ⟨v1, g1, rfl, rfl, o1⟩
  have hM1 := mem_own_add (mem_bel (mem_nil w) (by (repeat (first | with_reducible exact Bel.refl _ | with_reducible assumption | apply Bel.ext | apply Bel.alloc | apply Bel.drew | exact Bel.refl _ | refine Bel.set ?_ (by first | (simp; done) | (simp [go_sem]; done) | omega) _)) : Bel w (((w.alloc (.cells #[.slice a1 n1 c1, .slice a2 n2 c2, .slice a3 n3 c3] 58)).alloc (.cells #[.slice none 0 0, .slice none 0 0, .slice none 0 0] 63)).alloc (.cells #[.slice none 0 0, .slice none 0 0, .slice none 0 0] 63)))) (by (repeat (first | with_reducible exact Bel.refl _ | with_reducible assumption | apply Bel.ext | apply Bel.alloc | apply Bel.drew | exact Bel.refl _ | refine Bel.set ?_ (by first | (simp; done) | (simp [go_sem]; done) | omega) _)) : Bel _ _) _ _ _ _ _ o1
  have hA1 := above_add (above_nil (w.heap.size + 3)) o1 (by simp)
  obtain ⟨b1, d1, e1, -, -⟩ := own_len o1
  subst e1
  have hM1' := mem_set_low (b := w.heap.size + 1 + 1) (j := 0) (u := .slice b1 A.length d1) hM1 hA1 (by omega) (by omega)
  go_wp2_with fail
  refine Calls.mono (toInt64S_c _ B _ (h2.bel ?_) l2) ?_
  · exact hM1'.bel
  rintro ee ww ⟨v2, g2, rfl, rfl, o2⟩
  have hM2 := mem_own_add hM1' (by (repeat (first | with_reducible exact Bel.refl _ | with_reducible assumption | apply Bel.ext | apply Bel.alloc | apply Bel.drew | exact Bel.refl _ | refine Bel.set ?_ (by first | (simp; done) | (simp [go_sem]; done) | omega) _)) : Bel _ _) _ _ _ _ _ o2
  have hA2 := above_add hA1 o2 (by simp; refine Nat.le_trans ?_ (ext_size _ _); simp; done)
  obtain ⟨b2, d2, e2, -, -⟩ := own_len o2
  subst e2
  have hM2' := mem_set_low (b := w.heap.size + 1 + 1) (j := 1) (u := .slice b2 B.length d2) hM2 hA2 (by omega) (by omega)
  go_wp2_with fail
  refine Calls.mono (toInt64S_c _ C _ (h3.bel ?_) l3) ?_
  · exact hM2'.bel
  rintro ee ww ⟨v3, g3, rfl, rfl, o3⟩
  have hM3 := mem_own_add hM2' (by (repeat (first | with_reducible exact Bel.refl _ | with_reducible assumption | apply Bel.ext | apply Bel.alloc | apply Bel.drew | exact Bel.refl _ | refine Bel.set ?_ (by first | (simp; done) | (simp [go_sem]; done) | omega) _)) : Bel _ _) _ _ _ _ _ o3
  have hA3 := above_add hA2 o3 (by simp; refine Nat.le_trans ?_ (ext_size _ _); simp; refine Nat.le_trans ?_ (ext_size _ _); simp; done)
  obtain ⟨b3, d3, e3, -, -⟩ := own_len o3
  subst e3
  have hM4 := mem_set_low (b := w.heap.size + 1 + 1) (j := 2) (u := .slice b3 C.length d3) hM3 hA3 (by omega) (by omega)
  have hM5 := mem_set_low (b := w.heap.size + 1) (j := 0) (u := .slice b1 A.length d1) hM4 hA3 (by omega) (by omega)
  have hM6 := mem_set_low (b := w.heap.size + 1) (j := 1) (u := .slice b2 B.length d2) hM5 hA3 (by omega) (by omega)
  have hM7 := Lib.hid (mem_set_low (b := w.heap.size + 1) (j := 2) (u := .slice b3 C.length d3) hM6 hA3 (by omega) (by omega))
  clear o1 o2 o3 hM1 hM2 hM3 hM1' hM2' hM4 hM5 hM6 hA1 hA2 hA3
  go_wp2
  rw [← HR.out]
  refine bodyPost_ret (v := .agg #[.slice b1 A.length d1, .slice b2 B.length d2, .slice b3 C.length d3]) (by simp (maxDischargeDepth := 8) [results, Try.results37, go_sem]) rfl ?_
  obtain ⟨gz, hgz⟩ := ext_ex hM7.out.bel
  exact ⟨_, _, _, gz, rfl, hgz, hgz ▸ hM7.out⟩
end Go.Proofs.Ytjdcdcfhnpephaa
