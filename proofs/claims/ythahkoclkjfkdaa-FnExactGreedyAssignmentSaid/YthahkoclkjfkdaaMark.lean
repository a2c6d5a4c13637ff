/- Marking the rows of a slice of slices; the list of rows turned. -/
import Derived.Test.YthahkoclkjfkdaaTab
namespace Go.Proofs.Ythahkoclkjfkdaa
open Go.RowKit

theorem mem_prefix {W w : World} {A B : List Ent} (h : Mem W w (A ++ B)) : Mem W w A := by
  have get : ∀ (i : Nat) (r : Ent), A[i]? = some r → (A ++ B)[i]? = some r := fun i r hi => by rw [List.getElem?_append_left (List.getElem?_eq_some_iff.1 hi).1]; exact hi
  exact ⟨h.bel, fun i r hi => h.own i r (get i r hi), fun i j r s hi hj hij => h.apart i j r s (get i r hi) (get j s hj) hij⟩
theorem mem_tail {W w : World} {L : List Ent} {r : Ent} (h : Mem W w (r :: L)) : Mem W w L :=
  ⟨h.bel, fun i s hi => h.own (i + 1) s (by simpa using hi), fun i j s t hi hj hij => h.apart (i + 1) (j + 1) s t (by simpa using hi) (by simpa using hj) (by omega)⟩
/-- the newest row in front -/
theorem mem_front {W w : World} {L : List Ent} {r : Ent} (h : Mem W w (L ++ [r])) : Mem W w (r :: L) := by
  have hr : (L ++ [r])[L.length]? = some r := by rw [List.getElem?_append_right (Nat.le_refl _), Nat.sub_self]; rfl
  have hL : ∀ (i : Nat) (s : Ent), L[i]? = some s → (L ++ [r])[i]? = some s ∧ i < L.length := fun i s hi => ⟨by rw [List.getElem?_append_left (List.getElem?_eq_some_iff.1 hi).1]; exact hi, (List.getElem?_eq_some_iff.1 hi).1⟩
  refine ⟨h.bel, fun i s hi => ?_, fun i j s t hi hj hij => ?_⟩
  · match i, hi with
    | 0, hi => cases hi; exact h.own _ _ hr
    | i + 1, hi => exact h.own i s (hL i s (by simpa using hi)).1
  · match i, j, hi, hj with
    | 0, 0, _, _ => omega
    | 0, j + 1, hi, hj =>
      cases hi
      have k := hL j t (by simpa using hj)
      exact h.apart _ _ _ _ hr k.1 (by omega)
    | i + 1, 0, hi, hj =>
      cases hj
      have k := hL i s (by simpa using hi)
      exact h.apart _ _ _ _ k.1 hr (by omega)
    | i + 1, j + 1, hi, hj =>
      have k := hL i s (by simpa using hi)
      have l := hL j t (by simpa using hj)
      exact h.apart _ _ _ _ k.1 l.1 (by omega)
theorem mem_rowF {P : Program} {f : FuncId} {args : Array Value} {W w0 w : World} {L : List Ent} {e : TypeId} {size : Nat} {mk : Value → Value} {n : Nat} {cells : List Value} (h : Mem W w0 L) (hb : Bel w0 w)
    (c : Calls P f args w (RetRow e size mk n cells w)) :
    Calls P f args w fun en w' => ∃ v g, en = .returned (mk v) ∧ w' = ext W g ∧ Mem W (ext W g) (⟨v, e, size, n, cells⟩ :: L) :=
  (mem_row h hb c).mono fun _ _ ⟨v, g, he, hw, hm⟩ => ⟨v, g, he, hw, mem_front hm⟩
/-- a group of rows joins at the end -/
theorem mem_grp {P : Program} {f : FuncId} {args : Array Value} {W w0 w : World} {L : List Ent} {t e : TypeId} {xss : List (List Int)} (h : Mem W w0 L) (hb : Bel w0 w) (c : Calls P f args w (RetGrp t e xss w)) :
    Calls P f args w fun en w' => ∃ v us g, en = .returned v ∧ w' = ext W g ∧ us.length = xss.length ∧ RdN (ext W g) v xss ∧ Mem W (ext W g) (L ++ (⟨v, t, 1, xss.length, us⟩ :: innerE e us xss)) := c.mono fun _ _ ⟨v, us, g, he, hw, hl, hm⟩ => by
  have h1 := mem_bel h hb
  have h2 := mem_app h1 hm
  obtain ⟨g', hg⟩ := ext_ex h2.bel
  refine ⟨v, us, g', he, hw.trans hg, hl, ?_, ?_⟩
  · rw [← hg]; exact grp_rd hl hm
  · rw [← hg]; exact h2
theorem mem_nst {P : Program} {f : FuncId} {args : Array Value} {W w0 w : World} {L : List Ent} {xss : List (List Int)} (h : Mem W w0 L) (hb : Bel w0 w) (c : Calls P f args w (RetN xss w)) :
    Calls P f args w fun en w' => ∃ v g, en = .returned v ∧ w' = ext W g ∧ RdN (ext W g) v xss ∧ Mem W (ext W g) L := c.mono fun _ _ ⟨v, g, he, hw, hr⟩ => by
  have h1 := mem_bel (mem_bel h hb) ((Bel.refl w).ext g)
  obtain ⟨g', hg⟩ := ext_ex h1.bel
  refine ⟨v, g', he, hw.trans hg, ?_, ?_⟩
  · rw [← hg]; exact hr
  · rw [← hg]; exact h1
def lenS : List (List Int) → Nat
  | [] => 0
  | x :: r => x.length + lenS r
theorem lenS_take {xss : List (List Int)} {j : Nat} {x : List Int} (h : xss[j]? = some x) : lenS (xss.take (j + 1)) = lenS (xss.take j) + x.length := by
  rw [take_snoc_of h]
  have e : ∀ (a : List (List Int)), lenS (a ++ [x]) = lenS a + x.length := fun a => by induction a with | nil => simp [lenS] | cons y r ih => simp only [List.cons_append, lenS, ih]; omega
  exact e _
theorem lenS_take_le (xss : List (List Int)) (j : Nat) : lenS (xss.take j) ≤ lenS xss := by
  induction xss generalizing j with
  | nil => simp
  | cons x r ih =>
    cases j with
    | zero => simp [lenS]
    | succ j => simp only [List.take_succ_cons, lenS]; have := ih j; omega
theorem szF_sum : ∀ (xss : List (List Int)) (l : Int), 0 ≤ szF l xss → (lenS xss : Int) ≤ l
  | [], l, h => by unfold szF at h; simp [lenS]; omega
  | x :: r, l, h => by
    unfold szF at h
    split at h
    · omega
    · have := szF_sum r _ h
      simp only [lenS, Int.natCast_add]; omega
theorem szN_sum {xss : List (List Int)} {l : Int} (h : 0 ≤ szN l xss) : (lenS xss : Int) ≤ l := by
  unfold szN at h
  split at h
  · omega
  · have := szF_sum xss _ h; omega
def Inner (e : TypeId) (us : List Value) (xss : List (List Int)) (I : List Ent) : Prop :=
  I.length = xss.length ∧ ∀ (i : Nat) (r : Ent), I[i]? = some r → ∃ xs, us[i]? = some r.v ∧ xss[i]? = some xs ∧ r.e = e ∧ r.size = 1 ∧ r.n = xs.length
theorem inner_of {e : TypeId} {us : List Value} {xss : List (List Int)} (h : us.length = xss.length) : Inner e us xss (innerE e us xss) := by
  refine ⟨by simp [innerE, h], fun i r hi => ?_⟩
  have hl : i < (innerE e us xss).length := (List.getElem?_eq_some_iff.1 hi).1
  rw [show (innerE e us xss).length = xss.length by simp [innerE, h]] at hl
  have h1 : us[i]? = some (us[i]'(by omega)) := by simp
  have h2 : xss[i]? = some xss[i] := by simp
  rw [innerE_get h1 h2] at hi
  cases hi
  exact ⟨xss[i], h1, h2, rfl, rfl, rfl⟩
theorem Inner.set {e : TypeId} {us : List Value} {xss : List (List Int)} {I : List Ent} (h : Inner e us xss I) {j : Nat} {r : Ent} (hr : I[j]? = some r) (cs : List Value) : Inner e us xss (I.set j { r with cells := cs }) := by
  refine ⟨by rw [List.length_set]; exact h.1, fun i s hi => ?_⟩
  by_cases hij : j = i
  · subst hij
    rw [List.getElem?_set_self (List.getElem?_eq_some_iff.1 hr).1] at hi
    cases hi
    exact h.2 j r hr
  · rw [List.getElem?_set_ne hij] at hi; exact h.2 i s hi
set_option maxHeartbeats 2000000 in
theorem markInt64SS_c (A : List Ent) (v : Value) (t e : TypeId) (us : List Value) (xss : List (List Int)) (k : Int) (W w : World) (hM : Mem W w (A ++ (⟨v, t, 1, xss.length, us⟩ :: innerE e us xss))) (hl : us.length = xss.length)
    (h1 : 0 ≤ k) (h2 : k + (lenS xss : Int) ≤ 1000000000000) (hn : xss.length ≤ 1000000000) (hx : ∀ xs ∈ xss, xs.length ≤ 1000000000) :
    Calls Try.prog 31 #[v, .int .i64 k] w fun en w' => en = .returned (.int .i64 (k + (lenS xss : Int))) ∧ ∃ g, w' = ext W g ∧ Mem W (ext W g) A := by
  have hA : ∀ I : List Ent, (A ++ (⟨v, t, 1, xss.length, us⟩ :: I) : List Ent)[A.length]? = some ⟨v, t, 1, xss.length, us⟩ := fun I => by rw [List.getElem?_append_right (Nat.le_refl _), Nat.sub_self]; rfl
  have hB : ∀ (I : List Ent) (j : Nat), (A ++ (⟨v, t, 1, xss.length, us⟩ :: I) : List Ent)[A.length + 1 + j]? = I[j]? := fun I j => by rw [List.getElem?_append_right (by omega), show A.length + 1 + j - A.length = j + 1 by omega]; rfl
  have hS : ∀ (I : List Ent) (j : Nat) (r : Ent), (A ++ (⟨v, t, 1, xss.length, us⟩ :: I) : List Ent).set (A.length + 1 + j) r = A ++ (⟨v, t, 1, xss.length, us⟩ :: I.set j r) := fun I j r => by rw [List.set_append_right _ _ (by omega), show A.length + 1 + j - A.length = j + 1 by omega]; rfl
  have hfirst := hM
  obtain ⟨a, c, hv, hnc, hcm⟩ := own_len (hM.own _ _ (hA _))
  dsimp only at hv hnc
  subst hv
  unfold maxLen at hcm
  generalize hR : (fun (en : Ending) (w' : World) => en = .returned (.int .i64 (k + (lenS xss : Int))) ∧ ∃ g, w' = ext W g ∧ Mem W (ext W g) A) = R
  have HR := Lib.hid hR
  clear hR
  have HA := Lib.hid hA
  have HB := Lib.hid hB
  have HS := Lib.hid hS
  have HX := Lib.hid hx
  have H0 := Lib.hid hfirst
  have HI0 := Lib.hid (inner_of (e := e) hl)
  have HLE := Lib.hid (lenS_take_le xss)
  have HBel := hfirst.bel
  clear hM hfirst hx hA hB hS hl
  go_enter Try.func31, Try.ntmps31
  go_wp2
  go_loopw [1, 5] (fun x i wr => ∃ (j : Nat) (r : Int) (I : List Ent), j ≤ xss.length ∧ i = .int .i64 j ∧ x = .int .i64 r ∧ r = k + (lenS (xss.take j) : Int) ∧ Hid (Inner e us xss I) ∧ Hid (Mem W wr (A ++ (⟨.slice a xss.length c, t, 1, xss.length, us⟩ :: I)))) (fun _ i _ => xss.length - (intOf i).toNat)
  case atStart => exact ⟨0, k, _, Nat.zero_le _, rfl, rfl, by simp [lenS], HI0, H0⟩
  case round =>
    obtain ⟨j, r, I, hj, rfl, rfl, hr, hI, hM⟩ := hrel
    have hle := HLE.out j
    obtain ⟨g, hg⟩ := ext_ex hM.out.bel
    subst hg
    by_cases hlt : j < xss.length
    · obtain ⟨b, c', hv⟩ := mem_row_v hM.out A.length (HA.out I) (by omega)
      simp only [Value.slice.injEq] at hv
      obtain ⟨rfl, -, -⟩ := hv
      have hx0 : xss[j]? = some xss[j] := List.getElem?_eq_getElem hlt
      obtain ⟨r0, hr0⟩ : ∃ r0, I[j]? = some r0 := ⟨_, List.getElem?_eq_getElem (by rw [hI.out.1]; exact hlt)⟩
      obtain ⟨xs, k1, k2, k3, k4, k5⟩ := hI.out.2 j r0 hr0
      obtain ⟨o1, o2, o3, o4, o5⟩ := mem_far hM.out A.length (HA.out I) (by omega)
      have F1 := o1 j _ k1
      have hxl := HX.out xs (List.mem_of_getElem? k2)
      have HLT := Lib.hid (lenS_take k2)
      have hle2 := HLE.out (j + 1)
      rw [HLT.out] at hle2
      have HR0 := Lib.hid hr0
      obtain ⟨v0, e0, s0, n0, cs0⟩ := r0
      dsimp only at k1 k3 k4 k5 F1
      subst k3 k4 k5
      have hr1 : 0 ≤ r := by omega
      have hr2 : r ≤ 1000000000000 := by omega
      have HRR := Lib.hid hr
      clear o1 o2 k1 k2 hx0 hr0 hr hle hle2
      go_wp2_with (first | (go_at_call 32; refine Calls.mono (mem_mark hM.out ?_ (A.length + 1 + j) ((HB.out I j).trans HR0.out) (fun hm => markInt64S_c _ _ _ _ _ _ _ hm.bel (hm.own _ _ ((HB.out I j).trans HR0.out)) hxl hr1 hr2)) ?_; (focus (repeat (first | with_reducible exact Bel.refl _ | with_reducible assumption | apply Bel.ext | apply Bel.alloc | apply Bel.drew | exact Bel.refl _))); rintro ee ww ⟨rfl, g5, rfl, hM2⟩))
      go_roundw
      case rel =>
        refine ⟨j + 1, r + (xs.length : Int), I.set j ⟨v0, e0, 1, xs.length, markCells r (xs.length * 1)⟩, by omega, by go_num, by go_num, ?_, Lib.hid (hI.out.set HR0.out _), Lib.hid ?_⟩
        · rw [HRR.out, HLT.out]; simp only [Int.natCast_add]; omega
        · rw [HS.out] at hM2; exact hM2
      case measure => simp [intOf]; omega
    · have hjn : j = xss.length := by omega
      have HE := Lib.hid (show r = k + (lenS xss : Int) by rw [hr, hjn, List.take_of_length_le (Nat.le_refl _)])
      clear hr hle hjn
      go_wp2
      rw [← HR.out]
      exact ⟨by rw [← HE.out]; rfl, g, rfl, mem_prefix hM.out⟩
end Go.Proofs.Ythahkoclkjfkdaa
