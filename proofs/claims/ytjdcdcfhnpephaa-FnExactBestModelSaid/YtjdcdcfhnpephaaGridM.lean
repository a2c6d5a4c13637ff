/- What the laws' helpers on grids do: comparing, marking. -/
import Derived.Test.YtjdcdcfhnpephaaGridH
namespace Go.Proofs.Ytjdcdcfhnpephaa
open Go.RowKit

theorem mem_seen {W g : World} {L : List Ent} (h : Mem W (ext W g) L) (i : Nat) {b n c n' : Nat} {e : TypeId} {size : Nat} {cs : List Value} (hi : L[i]? = some ⟨.slice (some ⟨b, 0, none⟩) n c, e, size, n', cs⟩) (h0 : 0 < n') :
    (∀ j u, cs[j]? = some u → farCell W g b j = some u) ∧ (∀ j, farMark W g b j = false) ∧ W.heap.size ≤ b ∧ b < (ext W g).heap.size ∧ ¬ b < W.heap.size := by
  obtain ⟨b', c', hv, h1, h2, _, _, h3, h4⟩ := own_far (h.own i _ hi) h0
  simp only [Value.slice.injEq, Option.some.injEq, Addr.mk.injEq] at hv
  obtain ⟨⟨rfl, _⟩, _⟩ := hv
  exact ⟨h3, h4, h1, h2, by omega⟩
theorem mem_init {W w : World} {A B : List Ent} (h : Mem W w (A ++ B)) : Mem W w A := by
  have get : ∀ (i : Nat) (r : Ent), A[i]? = some r → (A ++ B)[i]? = some r := fun i r hi => by rw [List.getElem?_append_left (List.getElem?_eq_some_iff.1 hi).1]; exact hi
  exact ⟨h.bel, fun i r hi => h.own i r (get i r hi), fun i j r s hi hj hij => h.apart i j r s (get i r hi) (get j s hj) hij⟩
theorem set_app {L : List Ent} {B r : Ent} {i : Nat} (h : i < L.length) : (L ++ [B]).set i r = L.set i r ++ [B] := List.set_append_left _ _ h
theorem get_app {L : List Ent} {B r : Ent} {i : Nat} (h : L[i]? = some r) : (L ++ [B])[i]? = some r := by rw [List.getElem?_append_left (List.getElem?_eq_some_iff.1 h).1]; exact h
theorem get_last {L : List Ent} {B : Ent} {n : Nat} (h : L.length = n) : (L ++ [B])[n]? = some B := by subst h; rw [List.getElem?_append_right (Nat.le_refl _), Nat.sub_self]; rfl
set_option maxHeartbeats 2000000 in
theorem eqGrid_c (u1 u2 u3 v1 v2 v3 : Value) (A B C : List Int) (w : World) (h1 : Rd celI w u1 A) (h2 : Rd celI w u2 B) (h3 : Rd celI w u3 C) (k1 : Rd celI w v1 A) (k2 : Rd celI w v2 B) (k3 : Rd celI w v3 C) :
    Calls Try.prog 40 #[.agg #[u1, u2, u3], .agg #[v1, v2, v3]] w (Ret (.bool true) w) := by
  refine hide_ret fun v H => ?_
  obtain ⟨a1, n1, c1, rfl, s1⟩ := h1.sl
  obtain ⟨a2, n2, c2, rfl, s2⟩ := h2.sl
  obtain ⟨a3, n3, c3, rfl, s3⟩ := h3.sl
  obtain ⟨b1, m1, d1, rfl, t1⟩ := k1.sl
  obtain ⟨b2, m2, d2, rfl, t2⟩ := k2.sl
  obtain ⟨b3, m3, d3, rfl, t3⟩ := k3.sl
  clear s1 s2 s3 t1 t2 t3
  have E1 := Lib.hid (fun W x y => eqInt64S_c (.slice a1 n1 c1) (.slice b1 m1 d1) A A W x y)
  have E2 := Lib.hid (fun W x y => eqInt64S_c (.slice a2 n2 c2) (.slice b2 m2 d2) B B W x y)
  have E3 := Lib.hid (fun W x y => eqInt64S_c (.slice a3 n3 c3) (.slice b3 m3 d3) C C W x y)
  rw [decide_eq_true rfl] at E1 E2 E3
  go_enter Try.func40, Try.ntmps40
  go_wp2_with fail
  refine Calls.mono (E1.out _ (h1.bel ?_) (k1.bel ?_)) ?_
  · (repeat (first | with_reducible exact Bel.refl _ | with_reducible assumption | apply Bel.ext | apply Bel.alloc | apply Bel.drew | exact Bel.refl _ | refine Bel.set ?_ (by first | (simp; done) | (simp [go_sem]; done) | omega) _))
  · (repeat (first | with_reducible exact Bel.refl _ | with_reducible assumption | apply Bel.ext | apply Bel.alloc | apply Bel.drew | exact Bel.refl _ | refine Bel.set ?_ (by first | (simp; done) | (simp [go_sem]; done) | omega) _))
  rintro ee ww ⟨rfl, _, rfl⟩
  go_wp2_with fail
  refine Calls.mono (E2.out _ (h2.bel ?_) (k2.bel ?_)) ?_
  · (repeat (first | with_reducible exact Bel.refl _ | with_reducible assumption | apply Bel.ext | apply Bel.alloc | apply Bel.drew | exact Bel.refl _ | refine Bel.set ?_ (by first | (simp; done) | (simp [go_sem]; done) | omega) _))
  · (repeat (first | with_reducible exact Bel.refl _ | with_reducible assumption | apply Bel.ext | apply Bel.alloc | apply Bel.drew | exact Bel.refl _ | refine Bel.set ?_ (by first | (simp; done) | (simp [go_sem]; done) | omega) _))
  rintro ee ww ⟨rfl, _, rfl⟩
  go_wp2_with fail
  refine Calls.mono (E3.out _ (h3.bel ?_) (k3.bel ?_)) ?_
  · (repeat (first | with_reducible exact Bel.refl _ | with_reducible assumption | apply Bel.ext | apply Bel.alloc | apply Bel.drew | exact Bel.refl _ | refine Bel.set ?_ (by first | (simp; done) | (simp [go_sem]; done) | omega) _))
  · (repeat (first | with_reducible exact Bel.refl _ | with_reducible assumption | apply Bel.ext | apply Bel.alloc | apply Bel.drew | exact Bel.refl _ | refine Bel.set ?_ (by first | (simp; done) | (simp [go_sem]; done) | omega) _))
  rintro ee ww ⟨rfl, _, rfl⟩
  go_wp2
  go_ret
  refine Ret.mk ?_ (?_ : Bel _ _)
  · exact H.out
  · (repeat (first | with_reducible exact Bel.refl _ | with_reducible assumption | apply Bel.ext | apply Bel.alloc | apply Bel.drew | exact Bel.refl _ | refine Bel.set ?_ (by first | (simp; done) | (simp [go_sem]; done) | omega) _))
set_option maxHeartbeats 400000 in
theorem markGrid_c (W w : World) (L : List Ent) (hM : Mem W w L) (i : Nat) (v1 v2 v3 : Value) (e : TypeId) (n1 n2 n3 : Nat) (cs1 cs2 cs3 : List Value) (hi1 : L[i]? = some ⟨v1, e, 1, n1, cs1⟩) (hi2 : L[i + 1]? = some ⟨v2, e, 1, n2, cs2⟩) (hi3 : L[i + 2]? = some ⟨v3, e, 1, n3, cs3⟩)
    (l1 : n1 ≤ 1000000000) (l2 : n2 ≤ 1000000000) (l3 : n3 ≤ 1000000000) :
    Calls Try.prog 41 #[.agg #[v1, v2, v3], .int .i64 1] w fun en w' => ∃ (K : Int) (d1 d2 d3 : List Value) (g : World), 0 ≤ K ∧ en = .returned (.int .i64 K) ∧ w' = ext W g ∧ Mem W (ext W g) (((L.set i ⟨v1, e, 1, n1, d1⟩).set (i + 1) ⟨v2, e, 1, n2, d2⟩).set (i + 2) ⟨v3, e, 1, n3, d3⟩) := by
  generalize hR : (fun (en : Ending) (w' : World) => ∃ (K : Int) (d1 d2 d3 : List Value) (g : World), 0 ≤ K ∧ en = .returned (.int .i64 K) ∧ w' = ext W g ∧ Mem W (ext W g) (((L.set i ⟨v1, e, 1, n1, d1⟩).set (i + 1) ⟨v2, e, 1, n2, d2⟩).set (i + 2) ⟨v3, e, 1, n3, d3⟩)) = R
  have HR := Lib.hid hR
  clear hR
  obtain ⟨a1, c1, hv1, -, -⟩ := own_len (hM.own i _ hi1)
  obtain ⟨a2, c2, hv2, -, -⟩ := own_len (hM.own (i + 1) _ hi2)
  obtain ⟨a3, c3, hv3, -, -⟩ := own_len (hM.own (i + 2) _ hi3)
  dsimp only at hv1 hv2 hv3
  subst hv1 hv2 hv3
  have HM0 := Lib.hid hM
  have HI1 := Lib.hid hi1
  have HI2 := Lib.hid (fun (r : Ent) => show (L.set i r)[i + 1]? = some ⟨.slice a2 n2 c2, e, 1, n2, cs2⟩ from by rw [List.getElem?_set_ne (by omega)]; exact hi2)
  have HI3 := Lib.hid (fun (r s : Ent) => show ((L.set i r).set (i + 1) s)[i + 2]? = some ⟨.slice a3 n3 c3, e, 1, n3, cs3⟩ from by rw [List.getElem?_set_ne (by omega), List.getElem?_set_ne (by omega)]; exact hi3)
  have HL1 := Lib.hid (show i < L.length from (List.getElem?_eq_some_iff.1 hi1).1)
  have HL2 := Lib.hid (show i + 1 < L.length from (List.getElem?_eq_some_iff.1 hi2).1)
  have HL3 := Lib.hid (show i + 2 < L.length from (List.getElem?_eq_some_iff.1 hi3).1)
  clear hi1 hi2 hi3 hM
  have hMB : Mem W (w.alloc (.cells #[.slice a1 n1 c1, .slice a2 n2 c2, .slice a3 n3 c3] 63)) (L ++ [⟨.slice (some ⟨w.heap.size, 0, none⟩) 1 1, 63, 3, 1, [.slice a1 n1 c1, .slice a2 n2 c2, .slice a3 n3 c3]⟩]) := mem_lit HM0.out 63 3 [.slice a1 n1 c1, .slice a2 n2 c2, .slice a3 n3 c3] 1 rfl (by unfold maxLen; omega)
  have HMB := Lib.hid hMB
  clear hMB
  go_enter Try.func41, Try.ntmps41
  go_wp2_with fail
  refine Calls.mono (mem_mark HMB.out (Bel.refl _) i (get_app HI1.out) (fun hM => markInt64S_c _ _ n1 _ 1 _ _ hM.bel (hM.own i _ (get_app HI1.out)) l1 (by omega) (by omega))) ?_
  rintro ee ww ⟨rfl, g1, rfl, hM1⟩
  dsimp only at hM1
  rw [set_app HL1.out] at hM1
  obtain ⟨p1, p2, p3, p4, p5⟩ := mem_seen hM1 L.length (get_last (by rw [List.length_set])) (by omega)
  have F1 := p1 1 _ rfl
  clear p1
  have HM1 := Lib.hid hM1
  clear hM1
  go_wp2_with fail
  refine Calls.mono (mem_mark HM1.out (Bel.refl _) (i + 1) (get_app (HI2.out _)) (fun hM => markInt64S_c _ _ n2 _ _ _ _ hM.bel (hM.own (i + 1) _ (get_app (HI2.out _))) l2 (by omega) (by omega))) ?_
  rintro ee ww ⟨rfl, g2, rfl, hM2⟩
  dsimp only at hM2
  rw [set_app (by rw [List.length_set]; exact HL2.out)] at hM2
  obtain ⟨q1, q2, q3, q4, q5⟩ := mem_seen hM2 L.length (get_last (by rw [List.length_set, List.length_set])) (by omega)
  have G2 := q1 2 _ rfl
  clear q1
  have HM2 := Lib.hid hM2
  clear hM2
  go_wp2_with fail
  refine Calls.mono (mem_mark HM2.out (Bel.refl _) (i + 2) (get_app (HI3.out _ _)) (fun hM => markInt64S_c _ _ n3 _ _ _ _ hM.bel (hM.own (i + 2) _ (get_app (HI3.out _ _))) l3 (by omega) (by omega))) ?_
  rintro ee ww ⟨rfl, g3, rfl, hM3⟩
  dsimp only at hM3
  rw [set_app (by rw [List.length_set, List.length_set]; exact HL3.out)] at hM3
  have HM3 := Lib.hid (mem_init hM3)
  clear hM3
  go_wp2
  rw [← HR.out]
  refine ⟨_, _, _, _, g3, ?_, rfl, rfl, HM3.out⟩
  omega
end Go.Proofs.Ytjdcdcfhnpephaa
