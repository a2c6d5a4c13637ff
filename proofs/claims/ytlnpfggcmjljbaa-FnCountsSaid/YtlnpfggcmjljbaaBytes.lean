/- Slices of bytes that came in as arguments; what the laws' small functions on them do. -/
import Derived.Test.YtlnpfggcmjljbaaOpen
import Derived.Test.YtlnpfggcmjljbaaBase
namespace Go.Proofs.Ytlnpfggcmjljbaa
open Go.ChangeShapes Go.WideShapes Go.ChangeAt Go.RowKit Go.Deep

def celB : Cel Int := ⟨1, fun x => [.int .u8 x], fun _ => rfl, by decide, fun _ u h => by simp at h; subst h; rfl⟩
theorem Sl.atB {w : World} {b off n c : Nat} {xs : List Int} (h : Sl celB w (some ⟨b, off, none⟩) n c xs) {k : Nat} (hk : k < n) :
    ∃ x, Hid (xs[k]? = some x) ∧ w.cell? ⟨b, off + k, none⟩ = some (.int .u8 x) := by
  obtain ⟨x, hx⟩ := h.get hk
  obtain ⟨b', off', ha, hb, hc⟩ := h.at_ (by omega)
  cases ha
  have := hc k x hx 0 _ rfl
  exact ⟨x, hx, by simpa [celB] using this⟩
def bytesB (xs : List Int) : Prop := ∀ x ∈ xs, 0 ≤ x ∧ x ≤ 255
theorem open_slB {H : Type} {enc : TypeId × Value → H} {P : Program} {t e : TypeId} {W : World} {v : Value} {d : DataW H} {ps : List MemPlace} {r : Reach} {b0 : Nat} (ht : P.underlying t = some (.slice e)) (he : P.underlying e = some (.int .u8)) (hc : P.cellsOf e = 1)
    (hv : Value.okWide P W r b0 t v) (h : DataW.Trod enc P W 0 (fun _ => true) true t v d ps) :
    ∃ a n c xs, v = .slice a n c ∧ (Sl celB W a n c xs ∧ bytesB xs) := by
  obtain ⟨a0, len, cap, rfl⟩ := okWide_slice ht hv
  obtain ⟨fuel, hf⟩ := h
  rcases open_ints ht he hc hf with ⟨hcs, _⟩ | ⟨a, len', cap', zs, hcs, _, hl, hm, hz, _, hx, hw⟩
  · simp [Value.cells] at hcs
    obtain ⟨rfl, rfl, rfl⟩ := hcs
    exact ⟨none, 0, 0, [], rfl, ⟨rfl, Nat.le_refl _, by unfold maxLen; omega, fun h => by omega⟩, fun x hx => by cases hx⟩
  · simp [Value.cells] at hcs
    obtain ⟨rfl, rfl, rfl⟩ := hcs
    simp only [if_true] at hz
    refine ⟨_, len, cap, zs.take len, rfl, ⟨by simp; omega, hl, hm, fun h0 => ?_⟩, fun x hx => ?_⟩
    · obtain ⟨b, off, rfl, hb⟩ := spot_none (hx 0 (by omega))
      refine ⟨b, off, rfl, hb, fun i x hi j u hu => ?_⟩
      have hil : i < len := by
        have := (List.getElem?_eq_some_iff.1 hi).1
        simp at this; omega
      have hj : j = 0 := by
        have := (List.getElem?_eq_some_iff.1 hu).1
        simp [celB] at this; omega
      subst hj
      simp [celB] at hu
      subst hu
      have := hx i (by omega)
      rw [addr_add] at this
      rw [List.getElem?_take_of_lt hil] at hi
      simp only [celB, Nat.mul_one, Nat.add_zero]
      rw [this]; simp [hi]
    · have := hw x (List.mem_of_mem_take hx)
      simp only [Lit.wf, Bool.and_eq_true, decide_eq_true_eq] at this
      exact this
/-- a number out of a byte -/
def SomeAt (n : Int) (w : World) (e : Ending) (w' : World) : Prop := ∃ r : Int, 0 ≤ r ∧ r < n ∧ e = .returned (.int .i64 r) ∧ ∃ g, w' = ext w g
set_option maxHeartbeats 400000 in
theorem a2Long_c (a a' : Option Addr) (n n' c c' : Nat) (h1 : n ≤ 9223372036854775807) (h2 : n' ≤ 9223372036854775807) (w : World) :
    Calls Try.prog 19 #[.slice a n c, .slice a' n' c'] w (Ret (.bool (decide (3000 < n) || decide (3000 < n'))) w) := by
  refine hide_ret fun v H => ?_
  by_cases k1 : 3000 < n <;> by_cases k2 : 3000 < n'
  all_goals
    go_enter Try.func19, Try.ntmps19
    go_wp2
    go_ret
    refine Ret.mk ?_ (?_ : Bel _ _)
    · rw [← H.out]; first | (simp [k1, k2]; done) | (simp [k1, k2]; omega) | (simp; omega)
    · (repeat (first | exact Bel.refl _ | apply Bel.ext | apply Bel.alloc | apply Bel.drew | refine Bel.set ?_ (by first | (simp; done) | (simp [go_sem]; done) | omega) _))
set_option maxHeartbeats 1000000 in
theorem a2At_c (u : Value) (xs : List Int) (hb : bytesB xs) (i n : Int) (h1 : 0 ≤ i) (h2 : 1 ≤ n) (h3 : n ≤ 1000) (w : World) (hu : Rd celB w u xs) :
    Calls Try.prog 20 #[u, .int .i64 i, .int .i64 n] w (SomeAt n w) := by
  obtain ⟨a, m, c, rfl, hs⟩ := hu.sl
  have hcap := hs.le; have hmax := hs.cap
  unfold maxLen at hmax
  obtain ⟨k, rfl⟩ : ∃ k : Nat, i = k := ⟨i.toNat, by omega⟩
  by_cases hk : k < m
  · obtain ⟨b, off, rfl, hlt⟩ := hs.base hk
    obtain ⟨x, hx, hc0⟩ := hs.atB hk
    obtain ⟨x1, x2⟩ := hb x (List.mem_of_getElem? hx.out)
    have r1 := Int.emod_nonneg x (show n ≠ 0 by omega)
    have r2 := Int.emod_lt_of_pos x (show 0 < n by omega)
    clear hb
    go_enter Try.func20, Try.ntmps20
    go_wp2
    go_ret
    exact ⟨x % n, r1, r2, rfl, ext_ex (by (repeat (first | exact Bel.refl _ | apply Bel.ext | apply Bel.alloc | apply Bel.drew | refine Bel.set ?_ (by first | (simp; done) | (simp [go_sem]; done) | omega) _)) : Bel _ _)⟩
  · go_enter Try.func20, Try.ntmps20
    go_wp2
    go_ret
    exact ⟨0, by omega, by omega, rfl, ext_ex (by (repeat (first | exact Bel.refl _ | apply Bel.ext | apply Bel.alloc | apply Bel.drew | refine Bel.set ?_ (by first | (simp; done) | (simp [go_sem]; done) | omega) _)) : Bel _ _)⟩
set_option maxHeartbeats 1000000 in
theorem a2Has_c (u : Value) (xs : List Int) (t : Int) (w : World) (hu : Rd celI w u xs) :
    Calls Try.prog 22 #[u, .int .i64 t] w (Ret (.bool (xs.any fun x => x == t)) w) := by
  refine hide_ret fun v H => ?_
  obtain ⟨a, n, c, rfl, hs⟩ := hu.sl
  have hcap := hs.le; have hmax := hs.cap
  unfold maxLen at hmax
  have HL := Lib.hid hs.len
  go_enter Try.func22, Try.ntmps22
  go_wp2
  go_loopw [5] (fun i wr => ∃ k : Nat, k ≤ n ∧ i = .int .i64 k ∧ (∃ g, wr = ext w g) ∧ Hid (v = .bool ((xs.drop k).any fun x => x == t))) (fun i _ => n - (intOf i).toNat)
  case atStart => exact ⟨0, Nat.zero_le _, rfl, ext_ex (Bel.refl _), Lib.hid (by rw [← H.out]; rfl)⟩
  case round =>
    obtain ⟨k, hk, rfl, ⟨g, rfl⟩, hv⟩ := hrel
    by_cases hlt : k < n
    · obtain ⟨b, off, rfl, hb⟩ := hs.base hlt
      obtain ⟨x, hx, hc0⟩ := hs.at1 hlt
      rcases hq : (x == t) with _ | _
      · have HQ := Lib.hid hq
        go_wp2
        go_roundw
        case rel =>
          refine ⟨k + 1, by omega, by go_num, ext_ex (by (repeat (first | exact Bel.refl _ | apply Bel.ext | apply Bel.alloc | apply Bel.drew | refine Bel.set ?_ (by first | (simp; done) | (simp [go_sem]; done) | omega) _)) : Bel _ _), Lib.hid ?_⟩
          rw [hv.out, drop_cons_of hx.out, List.any_cons, HQ.out]; rfl
        case measure => simp [intOf]; omega
      · have HQ := Lib.hid hq
        go_wp2
        go_ret
        refine Ret.mk ?_ (?_ : Bel _ _)
        · rw [hv.out, drop_cons_of hx.out, List.any_cons, HQ.out]; rfl
        · (repeat (first | exact Bel.refl _ | apply Bel.ext | apply Bel.alloc | apply Bel.drew | refine Bel.set ?_ (by first | (simp; done) | (simp [go_sem]; done) | omega) _))
    · go_wp2
      go_ret
      refine Ret.mk ?_ (?_ : Bel _ _)
      · rw [hv.out, List.drop_of_length_le (by rw [← HL.out]; omega)]; rfl
      · (repeat (first | exact Bel.refl _ | apply Bel.ext | apply Bel.alloc | apply Bel.drew | refine Bel.set ?_ (by first | (simp; done) | (simp [go_sem]; done) | omega) _))
end Go.Proofs.Ytlnpfggcmjljbaa
