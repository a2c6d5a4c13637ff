/- Slices of slices of int64s: how they are read, and what the laws' helpers on them do. -/
import Derived.Test.YthahkoclkjfkdaaOpen
import Derived.Test.YthahkoclkjfkdaaMem
import Derived.Test.YthahkoclkjfkdaaRowInt
import Derived.Deep.Matrix
namespace Go.Proofs.Ythahkoclkjfkdaa
open Go.ChangeShapes Go.WideShapes Go.ChangeAt Go.RowKit Go.Deep

structure SlN (w : World) (a : Option Addr) (n c : Nat) (xss : List (List Int)) : Prop where
  len : n = xss.length
  le : n ≤ c
  cap : c ≤ maxLen
  at_ : 0 < n → ∃ b off, a = some ⟨b, off, none⟩ ∧ b < w.heap.size ∧ ∀ i xs, xss[i]? = some xs → ∃ ai ni ci, w.cell? ⟨b, off + i, none⟩ = some (.slice ai ni ci) ∧ Sl celI w ai ni ci xs
def RdN (w : World) (v : Value) (xss : List (List Int)) : Prop := ∃ a n c, v = .slice a n c ∧ SlN w a n c xss
theorem SlN.bel {w x : World} {a : Option Addr} {n c : Nat} {xss : List (List Int)} (h : SlN w a n c xss) (hb : Bel w x) : SlN x a n c xss := by
  obtain ⟨h0, h1, h2, h3⟩ := h
  refine ⟨h0, h1, h2, fun hp => ?_⟩
  obtain ⟨b, off, rfl, hlt, hc⟩ := h3 hp
  refine ⟨b, off, rfl, Nat.lt_of_lt_of_le hlt hb.size, fun i xs hx => ?_⟩
  obtain ⟨ai, ni, ci, h4, h5⟩ := hc i xs hx
  exact ⟨ai, ni, ci, by rw [Below.cell hb (p := ⟨b, _, none⟩) hlt]; exact h4, h5.bel hb⟩
theorem RdN.bel {w x : World} {v : Value} {xss : List (List Int)} (h : RdN w v xss) (hb : Bel w x) : RdN x v xss := by
  obtain ⟨a, n, c, rfl, h⟩ := h
  exact ⟨a, n, c, rfl, h.bel hb⟩
theorem SlN.rd {w : World} {a : Option Addr} {n c : Nat} {xss : List (List Int)} (h : SlN w a n c xss) : RdN w (.slice a n c) xss := ⟨a, n, c, rfl, h⟩
theorem SlN.base {w : World} {a : Option Addr} {n c : Nat} {xss : List (List Int)} (h : SlN w a n c xss) {k : Nat} (hk : k < n) : ∃ b off, a = some ⟨b, off, none⟩ ∧ b < w.heap.size := by
  obtain ⟨b, off, h1, h2, _⟩ := h.at_ (by omega)
  exact ⟨b, off, h1, h2⟩
theorem SlN.row {w : World} {b off n c : Nat} {xss : List (List Int)} (h : SlN w (some ⟨b, off, none⟩) n c xss) {k : Nat} (hk : k < n) :
    ∃ ai ni ci xs, Hid (xss[k]? = some xs) ∧ w.cell? ⟨b, off + k, none⟩ = some (.slice ai ni ci) ∧ Sl celI w ai ni ci xs := by
  have hl := h.len
  have hx : xss[k]? = some xss[k] := by simp
  obtain ⟨b', off', ha, hb, hc⟩ := h.at_ (by omega)
  cases ha
  obtain ⟨ai, ni, ci, h1, h2⟩ := hc k _ hx
  exact ⟨ai, ni, ci, _, hx, h1, h2⟩
theorem open_slN {H : Type} {enc : TypeId × Value → H} {P : Program} {t e q : TypeId} {W : World} {v : Value} {d : DataW H} {ps : List MemPlace} {r : Reach} {b0 : Nat} (ht : P.underlying t = some (.slice e)) (he : P.underlying e = some (.slice q)) (hq : P.underlying q = some (.int .i64)) (ce : P.cellsOf e = 1) (cq : P.cellsOf q = 1)
    (hv : Value.okWide P W r b0 t v) (h : DataW.Trod enc P W 0 (fun _ => true) true t v d ps) :
    ∃ a n c xss, v = .slice a n c ∧ SlN W a n c xss := by
  obtain ⟨a0, len, cap, rfl⟩ := okWide_slice ht hv
  obtain ⟨fuel, hf⟩ := h
  rcases open_int_rows ht he hq ce cq hf with ⟨hcs, _⟩ | ⟨a, len', cap', A, L, C, Z, hcs, _, hl, hm, _, hx⟩
  · simp [Value.cells] at hcs
    obtain ⟨rfl, rfl, rfl⟩ := hcs
    exact ⟨none, 0, 0, [], rfl, rfl, Nat.le_refl _, by unfold maxLen; omega, fun h => by omega⟩
  · simp [Value.cells] at hcs
    obtain ⟨rfl, rfl, rfl⟩ := hcs
    refine ⟨_, len, cap, (List.range len).map fun i => (Z i).take (L i), rfl, by simp, hl, hm, fun h0 => ?_⟩
    obtain ⟨b, off, rfl, hb⟩ := spot_none (hx 0 (by omega)).1
    refine ⟨b, off, rfl, hb, fun i xs hi => ?_⟩
    have hil : i < len := by
      have := (List.getElem?_eq_some_iff.1 hi).1
      simpa using this
    simp [hil] at hi
    subst hi
    obtain ⟨k1, k2, k3, k4, _, k6, k7⟩ := hx i (by omega)
    rw [addr_add] at k1
    refine ⟨A i, L i, C i, k1, ?_⟩
    refine ⟨by rw [List.length_take]; omega, k2, k3, fun hp => ?_⟩
    cases hA : A i with
    | none => have := k6 hA; omega
    | some a' =>
      obtain ⟨_, hcell⟩ := k7 a' hA
      obtain ⟨b', off', rfl, hb'⟩ := spot_none (hcell 0 (by omega))
      refine ⟨b', off', rfl, hb', fun j x hj u hu2 hu3 => ?_⟩
      have hjl : j < L i := by
        have := (List.getElem?_eq_some_iff.1 hj).1
        rw [List.length_take] at this; omega
      have hu0 : u = 0 := by
        have := (List.getElem?_eq_some_iff.1 hu3).1
        simp [celI] at this; omega
      subst hu0
      simp [celI] at hu3
      subst hu3
      have := hcell j (by omega)
      rw [addr_add] at this
      rw [List.getElem?_take_of_lt hjl] at hj
      simp only [celI, Nat.mul_one, Nat.add_zero]
      rw [this]; simp [List.getD, hj]
/-- what is left of a size -/
def szF : Int → List (List Int) → Int
  | l, [] => l
  | l, xs :: r => if l < xs.length then -1 else szF (l - xs.length) r
def szN (l : Int) (xss : List (List Int)) : Int := if l < xss.length then -1 else szF (l - xss.length) xss
theorem szF_bd : ∀ (xss : List (List Int)) (l : Int), 0 ≤ l → -1 ≤ szF l xss ∧ szF l xss ≤ l ∧ (0 ≤ szF l xss → ∀ xs ∈ xss, (xs.length : Int) ≤ l)
  | [], l, h => ⟨by unfold szF; omega, by unfold szF; omega, fun _ xs hx => by cases hx⟩
  | x :: r, l, h => by
    unfold szF
    split
    · exact ⟨by omega, by omega, fun h => by omega⟩
    · have ih := szF_bd r (l - x.length) (by omega)
      refine ⟨ih.1, by omega, fun h0 xs hx => ?_⟩
      rcases List.mem_cons.1 hx with rfl | hx
      · omega
      · have := ih.2.2 h0 xs hx; omega
theorem szN_bd (l : Int) (xss : List (List Int)) (h : 0 ≤ l) : -1 ≤ szN l xss ∧ szN l xss ≤ l ∧ (0 ≤ szN l xss → (xss.length : Int) ≤ l ∧ ∀ xs ∈ xss, (xs.length : Int) ≤ l) := by
  unfold szN
  split
  · exact ⟨by omega, by omega, fun h => by omega⟩
  · have ih := szF_bd xss (l - xss.length) (by omega)
    refine ⟨ih.1, by omega, fun h0 => ⟨by omega, fun xs hx => ?_⟩⟩
    have := ih.2.2 h0 xs hx; omega
/-! a group of rows that a call has made: the outer one and the inner ones -/
def innerE (e : TypeId) (us : List Value) (xss : List (List Int)) : List Ent := List.zipWith (fun u xs => ⟨u, e, 1, xs.length, celI.row xs⟩) us xss
theorem innerE_get {e : TypeId} {us : List Value} {xss : List (List Int)} {i : Nat} {u : Value} {xs : List Int} (hu : us[i]? = some u) (hx : xss[i]? = some xs) : (innerE e us xss)[i]? = some ⟨u, e, 1, xs.length, celI.row xs⟩ := by
  simp [innerE, List.getElem?_zipWith, hu, hx]
def RetGrp (t e : TypeId) (xss : List (List Int)) (w : World) (en : Ending) (w' : World) : Prop :=
  ∃ v us g, en = .returned v ∧ w' = ext w g ∧ us.length = xss.length ∧ Mem w (ext w g) (⟨v, t, 1, xss.length, us⟩ :: innerE e us xss)
theorem grp_rd {W w : World} {t e : TypeId} {v : Value} {us : List Value} {xss : List (List Int)} (hl : us.length = xss.length) (h : Mem W w (⟨v, t, 1, xss.length, us⟩ :: innerE e us xss)) : RdN w v xss := by
  have ho : w.ownsRow W.heap.size t 1 v xss.length us := h.own 0 _ rfl
  have hin : ∀ i u xs, us[i]? = some u → xss[i]? = some xs → Rd celI w u xs := fun i u xs hu hx => rd_of_row (h.own (i + 1) _ (by simpa using innerE_get hu hx))
  rcases own_len ho with ⟨a, c, rfl, hle, hcap⟩
  refine ⟨a, xss.length, c, rfl, rfl, hle, hcap, fun hp => ?_⟩
  have hc := fun g hg => ho.cells (g := g) hg
  have hlt := ho.lt
  rcases ho.2 with ⟨h1, h2⟩ | ⟨g, cap, cur, h1, _, hg, _⟩
  · omega
  · cases h1
    refine ⟨g, 0, rfl, (hlt g rfl).2, fun i xs hx => ?_⟩
    have hi : i < us.length := by rw [hl]; exact (List.getElem?_eq_some_iff.1 hx).1
    have hu : us[i]? = some us[i] := by simp
    have hr := hin i _ xs hu hx
    obtain ⟨ai, ci, e1, e2, e3, e4⟩ := hr
    refine ⟨ai, xs.length, ci, ?_, ⟨rfl, e2, e3, e4⟩⟩
    have := hc g rfl i _ hu
    rw [addr_add] at this
    rw [this, e1]
theorem innerE_snoc {e : TypeId} {us : List Value} {xss : List (List Int)} {u : Value} {xs : List Int} (h : us.length = xss.length) : innerE e (us ++ [u]) (xss ++ [xs]) = innerE e us xss ++ [⟨u, e, 1, xs.length, celI.row xs⟩] := by
  unfold innerE; rw [List.zipWith_append h]; rfl
/-- a store into row i of the call's own -/
theorem mem_store {W w : World} {L : List Ent} (h : Mem W w L) (i : Nat) {b n c : Nat} {e : TypeId} {size : Nat} {cs : List Value} (hi : L[i]? = some ⟨.slice (some ⟨b, 0, none⟩) n c, e, size, n, cs⟩) (j : Nat) (u : Value) :
    Mem W (w.setCell ⟨b, j, none⟩ u) (L.set i ⟨.slice (some ⟨b, 0, none⟩) n c, e, size, n, cs.set j u⟩) := by
  have ho := h.own i _ hi
  have hb := (ho.lt b rfl).1
  exact mem_put h i hi _ (own_stored ho j u) (set_grown _ _ _ _) (Bel.set h.bel hb u) (.inl rfl)
set_option maxHeartbeats 1000000 in
theorem szInt64S_c (a : Option Addr) (n c : Nat) (l : Int) (h1 : 0 ≤ l) (h2 : l ≤ 1000000000000) (h3 : n ≤ 9223372036854775807) (w : World) :
    Calls Try.prog 38 #[.slice a n c, .int .i64 l] w (Same (.int .i64 (if l < n then -1 else l - n)) w) := by
  refine hide_same fun v H => ?_
  by_cases h : l < n
  all_goals
    go_enter Try.func38, Try.ntmps38
    go_wp2
    go_ret
    refine Same.mk ?_; first | (rw [← H.out, if_pos h]; rfl) | (rw [← H.out, if_neg (by omega)]; rfl)
set_option maxHeartbeats 2000000 in
theorem szInt64SS_c (u : Value) (xss : List (List Int)) (l : Int) (w : World) (hu : RdN w u xss) (h1 : 0 ≤ l) (h2 : l ≤ 1000000000000) :
    Calls Try.prog 12 #[u, .int .i64 l] w (Ret (.int .i64 (szN l xss)) w) := by
  refine hide_ret fun v H => ?_
  obtain ⟨a, n, c, rfl, hs⟩ := hu
  have hcap := hs.le; have hmax := hs.cap
  unfold maxLen at hmax
  have HL := Lib.hid hs.len
  unfold szN at H
  rw [← HL.out] at H
  by_cases hn : l < n
  · go_enter Try.func12, Try.ntmps12
    go_wp2
    go_ret
    refine Ret.mk ?_ (?_ : Bel _ _)
    · rw [← H.out, if_pos hn]; rfl
    · (repeat (first | with_reducible exact Bel.refl _ | with_reducible assumption | apply Bel.ext | apply Bel.alloc | apply Bel.drew | exact Bel.refl _ | refine Bel.set ?_ (by first | (simp; done) | (simp [go_sem]; done) | omega) _))
  rw [if_neg hn] at H
  go_enter Try.func12, Try.ntmps12
  go_wp2
  go_loopw [1, 5] (fun x i wr => ∃ (k : Nat) (r : Int), k ≤ n ∧ i = .int .i64 k ∧ x = .int .i64 r ∧ 0 ≤ r ∧ r ≤ 1000000000000 ∧ (∃ g, wr = ext w g) ∧ Hid (v = .int .i64 (szF r (xss.drop k)))) (fun _ i _ => n - (intOf i).toNat)
  case atStart => exact ⟨0, l - n, Nat.zero_le _, rfl, by go_num, by omega, by omega, ext_ex (Bel.refl _), Lib.hid H.out.symm⟩
  case round =>
    obtain ⟨k, r, hk, rfl, rfl, hr1, hr2, ⟨g, rfl⟩, hv⟩ := hrel
    by_cases hlt : k < n
    · obtain ⟨b, off, rfl, hb⟩ := hs.base hlt
      obtain ⟨ai, ni, ci, xs, hx, hc0, hsi⟩ := hs.row hlt
      have hni := Lib.hid hsi.len; have hci := hsi.le; have hcm := hsi.cap
      unfold maxLen at hcm
      have HS := Lib.hid (fun w => szInt64S_c ai ni ci r hr1 hr2 (by omega) w)
      have hvv := hv.out
      rw [drop_cons_of hx.out, szF, ← hni.out] at hvv
      by_cases h3 : r < ni
      · simp only [h3, if_true] at HS hvv
        have HV := Lib.hid hvv
        clear hvv hv
        go_wp2_with (first | (go_at_call 38; refine Calls.mono (HS.out _) ?_; rintro ee ww ⟨rfl, rfl⟩))
        go_ret
        refine Ret.mk ?_ (?_ : Bel _ _)
        · exact HV.out.symm
        · (repeat (first | with_reducible exact Bel.refl _ | with_reducible assumption | apply Bel.ext | apply Bel.alloc | apply Bel.drew | exact Bel.refl _ | refine Bel.set ?_ (by first | (simp; done) | (simp [go_sem]; done) | omega) _))
      · simp only [h3, if_false] at HS hvv
        have HV := Lib.hid hvv
        clear hvv hv
        go_wp2_with (first | (go_at_call 38; refine Calls.mono (HS.out _) ?_; rintro ee ww ⟨rfl, rfl⟩))
        go_roundw
        case rel => exact ⟨k + 1, r - ni, by omega, by go_num, rfl, by omega, by omega, ext_ex (by (repeat (first | with_reducible exact Bel.refl _ | with_reducible assumption | apply Bel.ext | apply Bel.alloc | apply Bel.drew | exact Bel.refl _ | refine Bel.set ?_ (by first | (simp; done) | (simp [go_sem]; done) | omega) _)) : Bel _ _), HV⟩
        case measure => simp [intOf]; omega
    · have hvv := hv.out
      rw [List.drop_of_length_le (by rw [← HL.out]; omega), szF] at hvv
      have HV := Lib.hid hvv
      clear hvv hv
      go_wp2
      go_ret
      refine Ret.mk ?_ (?_ : Bel _ _)
      · exact HV.out.symm
      · (repeat (first | with_reducible exact Bel.refl _ | with_reducible assumption | apply Bel.ext | apply Bel.alloc | apply Bel.drew | exact Bel.refl _ | refine Bel.set ?_ (by first | (simp; done) | (simp [go_sem]; done) | omega) _))
set_option maxHeartbeats 2000000 in
theorem eqInt64SS_c (u v : Value) (xs ys : List (List Int)) (w : World) (hu : RdN w u xs) (hv : RdN w v ys) :
    Calls Try.prog 16 #[u, v] w (Ret (.bool (decide (xs = ys))) w) := by
  refine hide_ret fun r H => ?_
  obtain ⟨a, n, c, rfl, hs⟩ := hu
  obtain ⟨a', n', c', rfl, hs'⟩ := hv
  have hcap := hs.le; have hmax := hs.cap; have hcap' := hs'.le; have hmax' := hs'.cap
  unfold maxLen at hmax hmax'
  by_cases hn : n = n'
  · subst hn
    have hb : ((n : Int) != n) = false := by simp
    go_enter Try.func16, Try.ntmps16
    go_wp2
    go_loopw [5] (fun i wr => ∃ k : Nat, k ≤ n ∧ i = .int .i64 k ∧ (∃ g, wr = ext w g) ∧ Hid (r = .bool (decide (xs.drop k = ys.drop k)))) (fun i _ => n - (intOf i).toNat)
    case atStart => exact ⟨0, Nat.zero_le _, rfl, ext_ex (Bel.refl _), Lib.hid (by rw [← H.out]; rfl)⟩
    case round =>
      obtain ⟨k, hk, rfl, ⟨g, rfl⟩, hr⟩ := hrel
      by_cases hlt : k < n
      · obtain ⟨b, off, rfl, hb1⟩ := hs.base hlt
        obtain ⟨b', off', rfl, hb2⟩ := hs'.base hlt
        obtain ⟨ai, ni, ci, x, hx, hc0, hsi⟩ := hs.row hlt
        obtain ⟨ai', ni', ci', y, hy, hc0', hsi'⟩ := hs'.row hlt
        have HE := Lib.hid (fun x' (hx' : Bel w x') => eqInt64S_c _ _ x y x' (hsi.rd.bel hx') (hsi'.rd.bel hx'))
        by_cases hxy : x = y
        · have Hxy := Lib.hid hxy
          rw [decide_eq_true hxy] at HE
          clear hxy
          go_wp2_with fail
          refine region_ext (by kernel_rfl) (by kernel_rfl) ?_
          repeat (go_big_quiet_step (first | (go_at_call 20; exact Calls.in_ret (HE.out _ (by (repeat (first | exact Bel.refl _ | apply Bel.ext | apply Bel.alloc | apply Bel.drew)))))))
          refine wpQuiet_nil ?_
          rintro _ ⟨_, rfl⟩
          go_wp2
          go_roundw
          case rel =>
            refine ⟨k + 1, by omega, by go_num, ext_ex (by (repeat (first | with_reducible exact Bel.refl _ | with_reducible assumption | apply Bel.ext | apply Bel.alloc | apply Bel.drew | exact Bel.refl _ | refine Bel.set ?_ (by first | (simp; done) | (simp [go_sem]; done) | omega) _)) : Bel _ _), Lib.hid ?_⟩
            rw [hr.out, drop_cons_of hx.out, drop_cons_of hy.out, Hxy.out]; simp
          case measure => simp [intOf]; omega
        · have Hxy := Lib.hid hxy
          rw [decide_eq_false hxy] at HE
          clear hxy
          go_wp2_with fail
          refine region_ext (by kernel_rfl) (by kernel_rfl) ?_
          repeat (go_big_quiet_step (first | (go_at_call 20; exact Calls.in_ret (HE.out _ (by (repeat (first | exact Bel.refl _ | apply Bel.ext | apply Bel.alloc | apply Bel.drew)))))))
          refine wpQuiet_nil ?_
          rintro _ ⟨_, rfl⟩
          go_wp2
          go_ret
          refine Ret.mk ?_ (?_ : Bel _ _)
          · rw [hr.out, drop_cons_of hx.out, drop_cons_of hy.out]; simp [Hxy.out]
          · (repeat (first | with_reducible exact Bel.refl _ | with_reducible assumption | apply Bel.ext | apply Bel.alloc | apply Bel.drew | exact Bel.refl _ | refine Bel.set ?_ (by first | (simp; done) | (simp [go_sem]; done) | omega) _))
      · go_wp2_with (fail)
        all_goals (try ((refine region_ext (by kernel_rfl) (by kernel_rfl) ?_; (repeat (go_big_quiet_step (fail))); refine wpQuiet_nil ?_; rintro _ ⟨_, rfl⟩); go_wp2_with (fail)))
        go_ret
        refine Ret.mk ?_ (?_ : Bel _ _)
        · rw [hr.out, List.drop_of_length_le (by have := hs.len; omega), List.drop_of_length_le (by have := hs'.len; omega)]; simp
        · (repeat (first | with_reducible exact Bel.refl _ | with_reducible assumption | apply Bel.ext | apply Bel.alloc | apply Bel.drew | exact Bel.refl _ | refine Bel.set ?_ (by first | (simp; done) | (simp [go_sem]; done) | omega) _))
  · have hb : ((n : Int) != n') = true := by simp; omega
    go_enter Try.func16, Try.ntmps16
    go_wp2
    go_ret
    refine Ret.mk ?_ (?_ : Bel _ _)
    · rw [← H.out]; simp
      intro e; exact hn (by rw [hs.len, hs'.len, e])
    · (repeat (first | with_reducible exact Bel.refl _ | with_reducible assumption | apply Bel.ext | apply Bel.alloc | apply Bel.drew | exact Bel.refl _ | refine Bel.set ?_ (by first | (simp; done) | (simp [go_sem]; done) | omega) _))
theorem appRows : AppF Try.prog 22 27 1 24 := appF_of (z := .slice none 0 0) Try.underlying22 (by kernel_rfl) rfl
set_option maxHeartbeats 4000000 in
theorem toInt64SS_c (u : Value) (xss : List (List Int)) (w : World) (hu : RdN w u xss) (hn : xss.length ≤ 1000000000) (hx : ∀ xs ∈ xss, xs.length ≤ 1000000000) :
    Calls Try.prog 14 #[u] w (RetGrp 27 2 xss w) := by
  generalize hR : RetGrp _ _ _ w = R
  have HR := Lib.hid hR
  clear hR
  obtain ⟨a, n, c, rfl, hs⟩ := hu
  have hcap := hs.le; have hmax := hs.cap
  unfold maxLen at hmax
  have hl := hs.len
  have HL := Lib.hid hl
  rw [← hl] at hn
  clear hl
  have HX := Lib.hid hx
  clear hx
  go_enter Try.func14, Try.ntmps14
  go_wp2_with (at_make; refine wpList_make_ext _ rfl _ _ 22 27 1 24 rfl appRows n rfl rfl (by omega) (by omega) ?_; intro g0 cs hcs hown)
  have HC := Lib.hid hcs
  clear hcs
  have hM0 : Mem w (ext w g0) [⟨.slice (some ⟨w.heap.size, 0, none⟩) n n, 27, 1, n, cs⟩] := by
    have := mem_snoc (mem_bel (mem_nil w) ((Bel.refl w).ext g0)) ⟨.slice (some ⟨w.heap.size, 0, none⟩) n n, 27, 1, n, cs⟩ hown (fun j s hj => by simp at hj)
    simpa using this
  clear hown
  go_loopw [4] (fun i wr => ∃ (j : Nat) (us : List Value), j ≤ n ∧ us.length = j ∧ i = .int .i64 j ∧ Mem w wr (⟨.slice (some ⟨w.heap.size, 0, none⟩) n n, 27, 1, n, us ++ cs.drop j⟩ :: innerE 2 us (xss.take j))) (fun i _ => n - (intOf i).toNat)
  case atStart => exact ⟨0, [], Nat.zero_le _, rfl, rfl, by simpa [innerE] using hM0⟩
  case round =>
    obtain ⟨j, us, hj, hus, rfl, hM⟩ := hrel
    obtain ⟨g, rfl⟩ := ext_ex hM.bel
    by_cases hlt : j < n
    · obtain ⟨b, off, rfl, hb1⟩ := hs.base hlt
      obtain ⟨ai, ni, ci, xs, hxs, hc0, hsi⟩ := hs.row hlt
      have hxl := HX.out xs (List.mem_of_getElem? hxs.out)
      have hni := hsi.len; have hci := hsi.le; have hcm := hsi.cap
      unfold maxLen at hcm
      have HNI := Lib.hid hni
      clear hni
      have ho : (ext w g).ownsRow w.heap.size 27 1 (.slice (some ⟨w.heap.size, 0, none⟩) n n) n (us ++ cs.drop j) := hM.own 0 _ rfl
      go_wp2_with fail
      refine Calls.mono (mem_row hM ?_ (toInt64S_c _ xs _ (hsi.rd.bel ?_) hxl)) ?_
      · (repeat (first | with_reducible exact Bel.refl _ | with_reducible assumption | apply Bel.ext | apply Bel.alloc | apply Bel.drew | exact Bel.refl _ | refine Bel.set ?_ (by first | (simp; done) | (simp [go_sem]; done) | omega) _))
      · (repeat (first | with_reducible exact Bel.refl _ | with_reducible assumption | apply Bel.ext | apply Bel.alloc | apply Bel.drew | exact Bel.refl _ | refine Bel.set ?_ (by first | (simp; done) | (simp [go_sem]; done) | omega) _))
      rintro ee ww ⟨v0, g1, rfl, rfl, hM2⟩
      have hlen2 : (⟨.slice (some ⟨w.heap.size, 0, none⟩) n n, 27, 1, n, us ++ cs.drop j⟩ :: innerE 2 us (xss.take j) : List Ent).length = 1 + j := by
        simp [innerE, hus]; rw [← HL.out]; omega
      have hov : (ext w g1).ownsRow w.heap.size 2 1 v0 xs.length (celI.row xs) := hM2.own (1 + j) ⟨v0, 2, 1, xs.length, celI.row xs⟩ (by rw [List.getElem?_append_right (by rw [hlen2]; exact Nat.le_refl _), hlen2]; simp)
      have ho2 : (ext w g1).ownsRow w.heap.size 27 1 (.slice (some ⟨w.heap.size, 0, none⟩) n n) n (us ++ cs.drop j) := hM2.own 0 _ rfl
      obtain ⟨a0, c1, rfl, hle0, hcap0⟩ := own_len hov
      obtain ⟨bb, cc, hv2, hbb1, hbb2, -, -, hc, hf⟩ := own_far ho2 (by omega)
      cases hv2
      obtain ⟨u0, hu0⟩ := own_get (A := us) (cs := cs) hus (by rw [HC.out]; omega)
      have hcu := hc j u0 hu0
      have hf0 := hf j
      clear hc hf hu0 hov
      have hbe := hbb1
      have HO2 := Lib.hid ho2
      clear ho2 ho
      go_wp2_with fail
      go_wp2
      go_roundw
      case rel =>
        refine ⟨j + 1, us ++ [.slice a0 xs.length c1], by omega, by simp [hus], by go_num, ?_⟩
        have hm := mem_store hM2 0 (cs := us ++ cs.drop j) (by rfl) j (.slice a0 xs.length c1)
        rw [set_next us cs j _ hus (by rw [HC.out]; omega)] at hm
        rw [take_snoc_of hxs.out, innerE_snoc (by rw [List.length_take, hus]; have := HL.out; omega)]
        simpa using hm
      case measure => simp [intOf]; omega
    · go_wp2
      have hj' : j = n := by omega
      subst hj'
      rw [← HR.out]
      rw [List.drop_of_length_le (by rw [HC.out, Nat.mul_one]; exact Nat.le_refl _), List.append_nil, List.take_of_length_le (by rw [HL.out]; exact Nat.le_refl _)] at hM
      have e := HL.out
      subst e
      exact ⟨_, us, g, rfl, rfl, hus, hM⟩
def RetN (xss : List (List Int)) (w : World) (en : Ending) (w' : World) : Prop := ∃ v g, en = .returned v ∧ w' = ext w g ∧ RdN (ext w g) v xss
theorem toInt64SS_n (u : Value) (xss : List (List Int)) (w : World) (hu : RdN w u xss) (hn : xss.length ≤ 1000000000) (hx : ∀ xs ∈ xss, xs.length ≤ 1000000000) :
    Calls Try.prog 14 #[u] w (RetN xss w) :=
  (toInt64SS_c u xss w hu hn hx).mono fun _ _ ⟨v, us, g, he, hw, hl, hm⟩ => ⟨v, g, he, hw, grp_rd hl hm⟩
end Go.Proofs.Ythahkoclkjfkdaa
