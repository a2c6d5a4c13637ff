/- Bins that are shown in a window, as a row of bools: what the reference returns. -/
import Derived.Test.YtpfemaonipcbgaaBoolRow
namespace Go.Proofs.Ytpfemaonipcbgaa
open Go.RowKit

theorem set_boolrow (f : Nat → Bool) (cs : List Value) (k : Nat) (b : Bool) (hb : f k = b) (h : k < cs.length) : (celB.row (mapB f k) ++ cs.drop k).set k (.bool b) = celB.row (mapB f (k + 1)) ++ cs.drop (k + 1) := by
  have hl : (celB.row (mapB f k)).length = k := by rw [Cel.row_len, mapB_len]; exact Nat.mul_one k
  rw [set_next _ cs k _ hl h, mapB_succ, Cel.row_append, Cel.row_one, hb]; rfl
set_option maxHeartbeats 4000000 in
theorem l16Shown_c (e p x y : Int) (N : Nat) (h : ephB e p = true) (x1 : 0 ≤ x) (x2 : x ≤ 10000000) (y1 : 0 ≤ y) (y2 : y ≤ 10000000) (n1 : 1 ≤ N) (n2 : N ≤ 50) (n3 : (N : Int) ≤ p) (xy : x ≤ y) (w : World) :
    Calls Try.prog 42 #[.agg #[.int .i64 e, .int .i64 p], .agg #[.int .i64 x, .int .i64 y], .int .i64 (N : Int)] w (RetRow 4 1 (fun v => v) N (celB.row (mapB (shB e p N (x, y)) N)) w) := by
  generalize hR : RetRow _ _ _ _ _ w = R
  have HR := Lib.hid hR
  clear hR
  obtain ⟨e1, e2, p1, p2⟩ := ephB_iff.1 h
  have HE := Lib.hid h
  have f0 : 0 ≤ phaseI e p x := Int.emod_nonneg _ (by omega)
  have f1 : phaseI e p x < p := Int.emod_lt_of_pos _ (by omega)
  have g0 : 0 ≤ phaseI e p y := Int.emod_nonneg _ (by omega)
  have g1 : phaseI e p y < p := Int.emod_lt_of_pos _ (by omega)
  have hp0 : ¬ p = 0 := by omega
  have HS : Hid (∀ k : Nat, k < N → shB e p N (x, y) k = binSpec p N (phaseI e p x) (phaseI e p y) (y - x) k) := fun k hk => shB_spec (by omega) n3 (by omega) xy
  obtain ⟨q1, q2⟩ := mul_bd (k := (N : Int)) (p := phaseI e p x) (a := 50) (b := 1000000) (by omega) (by omega) f0 (by omega)
  obtain ⟨q3, q4⟩ := mul_bd (k := (N : Int)) (p := phaseI e p y) (a := 50) (b := 1000000) (by omega) (by omega) g0 (by omega)
  have w1 : IntKind.i64.wrap ((N : Int) * phaseI e p x) = (N : Int) * phaseI e p x := IntWalk.i64_in _ (by omega)
  have w2 : IntKind.i64.wrap ((N : Int) * phaseI e p y) = (N : Int) * phaseI e p y := IntWalk.i64_in _ (by omega)
  have w3 : IntKind.i64.wrap (((N : Int) * phaseI e p x).tdiv p) = (N : Int) * phaseI e p x / p := IntWalk.i64_quo _ _ ⟨by omega, by omega, by omega⟩
  have w4 : IntKind.i64.wrap (((N : Int) * phaseI e p y).tdiv p) = (N : Int) * phaseI e p y / p := IntWalk.i64_quo _ _ ⟨by omega, by omega, by omega⟩
  generalize shB e p N (x, y) = S at *
  clear h
  go_enter Try.func42, Try.ntmps42
  go_wp2_with (at_make; refine wpList_make_fill rfl _ _ 62 4 1 rfl Try.underlying62 (.bool false) rfl (by kernel_rfl) N rfl rfl (by omega) (by omega) ?_; intro g5 hown)
  have HOW := Lib.hid hown
  clear hown
  have hwA : Bel w ((w.alloc (Obj.cells #[.int .i64 e, .int .i64 p] 33)).alloc (Obj.cells #[.int .i64 x, .int .i64 y] 45)) := by (repeat (first | with_reducible exact Bel.refl _ | with_reducible assumption | apply Bel.ext | apply Bel.alloc | apply Bel.drew | exact Bel.refl _ | refine Bel.set ?_ (by first | (simp; done) | (simp [go_sem]; done) | omega) _))
  have hc0 : ((w.alloc (Obj.cells #[.int .i64 e, .int .i64 p] 33)).alloc (Obj.cells #[.int .i64 x, .int .i64 y] 45)).cell? ⟨w.heap.size, 0, none⟩ = some (.int .i64 e) := by simp [go_sem]
  have hc1 : ((w.alloc (Obj.cells #[.int .i64 e, .int .i64 p] 33)).alloc (Obj.cells #[.int .i64 x, .int .i64 y] 45)).cell? ⟨w.heap.size, 1, none⟩ = some (.int .i64 p) := by simp [go_sem]
  have hc2 : ((w.alloc (Obj.cells #[.int .i64 e, .int .i64 p] 33)).alloc (Obj.cells #[.int .i64 x, .int .i64 y] 45)).cell? ⟨w.heap.size + 1, 0, none⟩ = some (.int .i64 x) := by simp [go_sem]
  have hc3 : ((w.alloc (Obj.cells #[.int .i64 e, .int .i64 p] 33)).alloc (Obj.cells #[.int .i64 x, .int .i64 y] 45)).cell? ⟨w.heap.size + 1, 1, none⟩ = some (.int .i64 y) := by simp [go_sem]
  have hz0 : w.heap.size < ((w.alloc (Obj.cells #[.int .i64 e, .int .i64 p] 33)).alloc (Obj.cells #[.int .i64 x, .int .i64 y] 45)).heap.size := by first | (simp; done) | (simp; omega)
  have hz1 : w.heap.size + 1 < ((w.alloc (Obj.cells #[.int .i64 e, .int .i64 p] 33)).alloc (Obj.cells #[.int .i64 x, .int .i64 y] 45)).heap.size := by first | (simp; done) | (simp; omega)
  have hAz := Lib.hid (show ((w.alloc (Obj.cells #[.int .i64 e, .int .i64 p] 33)).alloc (Obj.cells #[.int .i64 x, .int .i64 y] 45)).heap.size = w.heap.size + 1 + 1 from by simp)
  generalize ((w.alloc (Obj.cells #[.int .i64 e, .int .i64 p] 33)).alloc (Obj.cells #[.int .i64 x, .int .i64 y] 45)) = A at *
  have hM := mem_nil A
  (refine region_ext (by kernel_rfl) (by kernel_rfl) ?_; (repeat (go_big_quiet_step (first | (go_at_call 57; exact Calls.in_ret (l09Phase_c e p _ HE.out (by omega) (by omega) _))))); refine wpQuiet_nil ?_; rintro _ ⟨_, rfl⟩)
  go_wp2
  (refine region_ext (by kernel_rfl) (by kernel_rfl) ?_; (repeat (go_big_quiet_step (first | (go_at_call 57; exact Calls.in_ret (l09Phase_c e p _ HE.out (by omega) (by omega) _))))); refine wpQuiet_nil ?_; rintro _ ⟨_, rfl⟩)
  go_wp2
  (refine region_ext (by kernel_rfl) (by kernel_rfl) ?_; (repeat (go_big_quiet_step (first | (go_at_call 57; exact Calls.in_ret (l09Phase_c e p _ HE.out (by omega) (by omega) _))))); refine wpQuiet_nil ?_; rintro _ ⟨_, rfl⟩)
  go_wp2
  have HCS : Hid ((List.replicate N (Value.bool false)).length = N) := Lib.hid (by simp)
  generalize List.replicate N (Value.bool false) = cs at *
  clear w1 w2 w3 w4 q1 q2 q3 q4
  unfold binSpec at HS
  generalize (N : Int) * phaseI e p x / p = fi at *
  generalize (N : Int) * phaseI e p y / p = la at *
  have HV : Hid (∀ k : Nat, k < N → S k = if p - 1 ≤ y - x then true else if phaseI e p y < phaseI e p x then decide (fi ≤ k) || decide ((k : Int) ≤ la) else decide (fi ≤ k) && decide ((k : Int) ≤ la)) := HS
  clear HS
  generalize phaseI e p x = f at *
  generalize phaseI e p y = g at *
  rw [← hAz.out]
  go_loopw [12] (fun i wr => ∃ k : Nat, k ≤ N ∧ i = .int .i64 k ∧ Bel A wr ∧ Hid (wr.ownsRow A.heap.size 4 1 (.slice (some ⟨A.heap.size, 0, none⟩) N N) N (celB.row (mapB S k) ++ cs.drop k))) (fun i _ => N - (intOf i).toNat)
  case atStart => exact ⟨0, Nat.zero_le _, rfl, by (repeat (first | with_reducible exact Bel.refl _ | with_reducible assumption | apply Bel.ext | apply Bel.alloc | apply Bel.drew | exact Bel.refl _ | refine Bel.set ?_ (by first | (simp; done) | (simp [go_sem]; done) | omega) _)), Lib.hid (by simpa [mapB, Cel.row] using own_bel HOW.out (by (repeat (first | with_reducible exact Bel.refl _ | with_reducible assumption | apply Bel.ext | apply Bel.alloc | apply Bel.drew | exact Bel.refl _ | refine Bel.set ?_ (by first | (simp; done) | (simp [go_sem]; done) | omega) _))))⟩
  case round =>
    clear HOW
    obtain ⟨k, hk, rfl, hbel, hown⟩ := hrel
    obtain ⟨g4, rfl⟩ := ext_ex hbel
    by_cases hlt : k < N
    · obtain ⟨bb, cc, hv2, hbb1, hbb2, -, -, hc, hf⟩ := own_far hown.out (by omega)
      cases hv2
      have hlk : (celB.row (mapB S k)).length = k := by rw [Cel.row_len, mapB_len]; exact Nat.mul_one k
      obtain ⟨u0, hu0⟩ := own_get (A := celB.row (mapB S k)) (cs := cs) hlk (by rw [HCS.out]; omega)
      have hcu := hc k u0 hu0
      have hf0 := hf k
      clear hc hf hu0
      have hbe := hbb1
      have HVK := HV.out k hlt
      by_cases hw : p - 1 ≤ y - x
      · rw [if_pos hw] at HVK
        have HST := Lib.hid (set_boolrow S cs k _ HVK (by rw [HCS.out]; omega))
        clear HVK
        go_wp2
        go_roundw
        case rel =>
          refine ⟨k + 1, by omega, by go_num, by (repeat (first | with_reducible exact Bel.refl _ | with_reducible assumption | apply Bel.ext | apply Bel.alloc | apply Bel.drew | exact Bel.refl _ | refine Bel.set ?_ (by first | (simp; done) | (simp [go_sem]; done) | omega) _)), Lib.hid ?_⟩
          rw [← HST.out]
          exact own_stored (own_bel hown.out (by (repeat (first | with_reducible exact Bel.refl _ | with_reducible assumption | apply Bel.ext | apply Bel.alloc | apply Bel.drew | exact Bel.refl _ | refine Bel.set ?_ (by first | (simp; done) | (simp [go_sem]; done) | omega) _)))) _ _
        case measure => simp [intOf]; omega
      · rw [if_neg hw] at HVK
        by_cases hg : g < f <;> by_cases h1 : fi ≤ (k : Int) <;> by_cases h2 : (k : Int) ≤ la
        all_goals
          simp only [hg, h1, h2, if_true, if_false, decide_true, decide_false, Bool.or_true, Bool.or_false, Bool.and_true, Bool.and_false] at HVK
          have HST := Lib.hid (set_boolrow S cs k _ HVK (by rw [HCS.out]; omega))
          clear HVK
          go_wp2
          go_roundw
          case rel =>
            refine ⟨k + 1, by omega, by go_num, by (repeat (first | with_reducible exact Bel.refl _ | with_reducible assumption | apply Bel.ext | apply Bel.alloc | apply Bel.drew | exact Bel.refl _ | refine Bel.set ?_ (by first | (simp; done) | (simp [go_sem]; done) | omega) _)), Lib.hid ?_⟩
            rw [← HST.out]
            exact own_stored (own_bel hown.out (by (repeat (first | with_reducible exact Bel.refl _ | with_reducible assumption | apply Bel.ext | apply Bel.alloc | apply Bel.drew | exact Bel.refl _ | refine Bel.set ?_ (by first | (simp; done) | (simp [go_sem]; done) | omega) _)))) _ _
          case measure => simp [intOf]; omega
    · have hk' : k = N := by omega
      subst hk'
      have hO := hown.out
      rw [List.drop_of_length_le (by rw [HCS.out]; exact Nat.le_refl _), List.append_nil] at hO
      have HO := Lib.hid hO
      clear hO hown
      go_wp2
      rw [← HR.out]
      refine RetRow.mk' rfl ?_ (own_mono (own_bel HO.out ?_) hwA.size)
      · exact Below.trans hwA (Below.mono (by (repeat (first | with_reducible exact Bel.refl _ | with_reducible assumption | apply Bel.ext | apply Bel.alloc | apply Bel.drew | exact Bel.refl _ | refine Bel.set ?_ (by first | (simp; done) | (simp [go_sem]; done) | omega) _)) : Bel A _) hwA.size)
      · (repeat (first | with_reducible exact Bel.refl _ | with_reducible assumption | apply Bel.ext | apply Bel.alloc | apply Bel.drew | exact Bel.refl _ | refine Bel.set ?_ (by first | (simp; done) | (simp [go_sem]; done) | omega) _))
end Go.Proofs.Ytpfemaonipcbgaa
