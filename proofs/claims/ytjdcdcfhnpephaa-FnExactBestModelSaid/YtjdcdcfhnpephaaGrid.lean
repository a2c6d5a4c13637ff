/- Grids of models: the models of a grid, in plain lists and in the program. -/
import Derived.Test.YtjdcdcfhnpephaaModel
import Derived.Test.YtjdcdcfhnpephaaRowInt
import Derived.Test.YtjdcdcfhnpephaaRowModel
import Derived.Test.YtjdcdcfhnpephaaPredModel
import Derived.Test.YtjdcdcfhnpephaaMem
namespace Go.Proofs.Ytjdcdcfhnpephaa
open Go.RowKit

def gridB (A B C : List Int) : Bool := decide (1 ≤ A.length) && decide (1 ≤ B.length) && decide (1 ≤ C.length) && decide (A.length ≤ 300) && decide (B.length ≤ 300) && decide (C.length ≤ 300) && decide (A.length * B.length * C.length ≤ 300)
def rowC (d h : Int) (C : List Int) : List (Int × Int × Int) := C.map fun f => (d, h, f)
def rowB2 (d : Int) (B C : List Int) : List (Int × Int × Int) := B.flatMap fun h => rowC d h C
def prodL (A B C : List Int) : List (Int × Int × Int) := A.flatMap fun d => rowB2 d B C
def okM (x : Int × Int × Int) : Bool := modelB x.1 x.2.1 x.2.2
def modelsI (A B C : List Int) : List (Int × Int × Int) × Int := if !gridB A B C then ([], 1) else ((prodL A B C).filter okM, 0)
theorem rowC_take {d h : Int} {C : List Int} {k : Nat} {f : Int} (hx : C[k]? = some f) : rowC d h (C.take (k + 1)) = rowC d h (C.take k) ++ [(d, h, f)] := by rw [take_snoc_of hx]; simp [rowC]
theorem rowB2_take {d : Int} {B C : List Int} {k : Nat} {h : Int} (hx : B[k]? = some h) : rowB2 d (B.take (k + 1)) C = rowB2 d (B.take k) C ++ rowC d h C := by rw [take_snoc_of hx]; simp [rowB2]
theorem prodL_take {A B C : List Int} {k : Nat} {d : Int} (hx : A[k]? = some d) : prodL (A.take (k + 1)) B C = prodL (A.take k) B C ++ rowB2 d B C := by rw [take_snoc_of hx]; simp [prodL]
theorem rowB2_len (d : Int) (B C : List Int) : (rowB2 d B C).length = B.length * C.length := by
  induction B with
  | nil => simp [rowB2]
  | cons h r ih => simp only [rowB2, List.flatMap_cons, List.length_append, List.length_cons] at ih ⊢; rw [ih, Nat.succ_mul]; simp [rowC]; omega
theorem prodL_len (A B C : List Int) : (prodL A B C).length = A.length * B.length * C.length := by
  induction A with
  | nil => simp [prodL]
  | cons d r ih => simp only [prodL, List.flatMap_cons, List.length_append, List.length_cons] at ih ⊢; rw [ih, rowB2_len, Nat.succ_mul, Nat.add_mul]; omega
theorem modelsI_len (A B C : List Int) : (modelsI A B C).1.length ≤ 300 := by
  unfold modelsI
  rcases h : gridB A B C with _ | _
  · simp
  · simp only [Bool.not_true, Bool.false_eq_true, if_false]
    have h1 := List.length_filter_le okM (prodL A B C)
    rw [prodL_len] at h1
    simp [gridB] at h
    omega
theorem gridB_iff {A B C : List Int} : gridB A B C = true ↔ 1 ≤ A.length ∧ 1 ≤ B.length ∧ 1 ≤ C.length ∧ A.length ≤ 300 ∧ B.length ≤ 300 ∧ C.length ≤ 300 ∧ A.length * B.length * C.length ≤ 300 := by simp [gridB, and_assoc]
theorem prod_in {a b c : Nat} (h1 : a ≤ 300) (h2 : b ≤ 300) (h3 : c ≤ 300) : a * b ≤ 90000 ∧ a * b * c ≤ 27000000 :=
  ⟨Nat.mul_le_mul h1 h2, Nat.mul_le_mul (Nat.mul_le_mul h1 h2) h3⟩
set_option maxHeartbeats 2000000 in
theorem isGrid_c (u1 u2 u3 : Value) (A B C : List Int) (w : World) (h1 : Rd celI w u1 A) (h2 : Rd celI w u2 B) (h3 : Rd celI w u3 C) :
    Calls Try.prog 75 #[.agg #[u1, u2, u3]] w (Ret (.bool (gridB A B C)) w) := by
  refine hide_ret fun v H => ?_
  obtain ⟨a1, n1, c1, rfl, s1⟩ := h1.sl
  obtain ⟨a2, n2, c2, rfl, s2⟩ := h2.sl
  obtain ⟨a3, n3, c3, rfl, s3⟩ := h3.sl
  have e1 := s1.len; have e2 := s2.len; have e3 := s3.len
  have l1 := s1.le; have l2 := s2.le; have l3 := s3.le
  have m1 := s1.cap; have m2 := s2.cap; have m3 := s3.cap
  unfold maxLen at m1 m2 m3
  have HG := Lib.hid (gridB_iff (A := A) (B := B) (C := C))
  rw [← e1, ← e2, ← e3] at HG
  clear e1 e2 e3 s1 s2 s3
  have hz : w.heap.size < (w.alloc (.cells #[.slice a1 n1 c1, .slice a2 n2 c2, .slice a3 n3 c3] 63)).heap.size := by simp
  have no : ¬ (gridB A B C = true) → Hid (Value.bool false = v) := fun h => by rw [Bool.not_eq_true] at h; rw [← H.out, h]; exact rfl
  by_cases q1 : n1 < 1
  · have HF := no (fun h => by have := HG.out.1 h; omega)
    have z1 : (n1 : Int) < 1 := by omega
    clear no q1
    go_enter Try.func75, Try.ntmps75
    go_wp2
    go_region_held3 (fun q => q.cell? ⟨w.heap.size, 0, none⟩ = some (.slice a1 n1 c1) ∧ q.cell? ⟨w.heap.size, 1, none⟩ = some (.slice a2 n2 c2) ∧ q.cell? ⟨w.heap.size, 2, none⟩ = some (.slice a3 n3 c3)) (simp [go_sem, *]) (fail)
    all_goals go_wp2
    go_ret
    refine Ret.mk ?_ (?_ : Bel _ _)
    · exact HF.out
    · (repeat (first | with_reducible exact Bel.refl _ | with_reducible assumption | apply Bel.ext | apply Bel.alloc | apply Bel.drew | exact Bel.refl _ | refine Bel.set ?_ (by first | (simp; done) | (simp [go_sem]; done) | omega) _))
  have z1 : (1 : Int) ≤ n1 := by omega
  by_cases q2 : n2 < 1
  · have HF := no (fun h => by have := HG.out.1 h; omega)
    have z2 : (n2 : Int) < 1 := by omega
    clear no q2
    go_enter Try.func75, Try.ntmps75
    go_wp2
    go_region_held3 (fun q => q.cell? ⟨w.heap.size, 0, none⟩ = some (.slice a1 n1 c1) ∧ q.cell? ⟨w.heap.size, 1, none⟩ = some (.slice a2 n2 c2) ∧ q.cell? ⟨w.heap.size, 2, none⟩ = some (.slice a3 n3 c3)) (simp [go_sem, *]) (fail)
    all_goals go_wp2
    go_ret
    refine Ret.mk ?_ (?_ : Bel _ _)
    · exact HF.out
    · (repeat (first | with_reducible exact Bel.refl _ | with_reducible assumption | apply Bel.ext | apply Bel.alloc | apply Bel.drew | exact Bel.refl _ | refine Bel.set ?_ (by first | (simp; done) | (simp [go_sem]; done) | omega) _))
  have z2 : (1 : Int) ≤ n2 := by omega
  by_cases q3 : n3 < 1
  · have HF := no (fun h => by have := HG.out.1 h; omega)
    have z3 : (n3 : Int) < 1 := by omega
    clear no q3
    go_enter Try.func75, Try.ntmps75
    go_wp2
    go_region_held3 (fun q => q.cell? ⟨w.heap.size, 0, none⟩ = some (.slice a1 n1 c1) ∧ q.cell? ⟨w.heap.size, 1, none⟩ = some (.slice a2 n2 c2) ∧ q.cell? ⟨w.heap.size, 2, none⟩ = some (.slice a3 n3 c3)) (simp [go_sem, *]) (fail)
    all_goals go_wp2
    go_ret
    refine Ret.mk ?_ (?_ : Bel _ _)
    · exact HF.out
    · (repeat (first | with_reducible exact Bel.refl _ | with_reducible assumption | apply Bel.ext | apply Bel.alloc | apply Bel.drew | exact Bel.refl _ | refine Bel.set ?_ (by first | (simp; done) | (simp [go_sem]; done) | omega) _))
  have z3 : (1 : Int) ≤ n3 := by omega
  by_cases q4 : 300 < n1
  · have HF := no (fun h => by have := HG.out.1 h; omega)
    have z4 : (300 : Int) < n1 := by omega
    clear no q4
    go_enter Try.func75, Try.ntmps75
    go_wp2
    go_region_held3 (fun q => q.cell? ⟨w.heap.size, 0, none⟩ = some (.slice a1 n1 c1) ∧ q.cell? ⟨w.heap.size, 1, none⟩ = some (.slice a2 n2 c2) ∧ q.cell? ⟨w.heap.size, 2, none⟩ = some (.slice a3 n3 c3)) (simp [go_sem, *]) (fail)
    all_goals go_wp2
    go_ret
    refine Ret.mk ?_ (?_ : Bel _ _)
    · exact HF.out
    · (repeat (first | with_reducible exact Bel.refl _ | with_reducible assumption | apply Bel.ext | apply Bel.alloc | apply Bel.drew | exact Bel.refl _ | refine Bel.set ?_ (by first | (simp; done) | (simp [go_sem]; done) | omega) _))
  have z4 : (n1 : Int) ≤ 300 := by omega
  by_cases q5 : 300 < n2
  · have HF := no (fun h => by have := HG.out.1 h; omega)
    have z5 : (300 : Int) < n2 := by omega
    clear no q5
    go_enter Try.func75, Try.ntmps75
    go_wp2
    go_region_held3 (fun q => q.cell? ⟨w.heap.size, 0, none⟩ = some (.slice a1 n1 c1) ∧ q.cell? ⟨w.heap.size, 1, none⟩ = some (.slice a2 n2 c2) ∧ q.cell? ⟨w.heap.size, 2, none⟩ = some (.slice a3 n3 c3)) (simp [go_sem, *]) (fail)
    all_goals go_wp2
    go_ret
    refine Ret.mk ?_ (?_ : Bel _ _)
    · exact HF.out
    · (repeat (first | with_reducible exact Bel.refl _ | with_reducible assumption | apply Bel.ext | apply Bel.alloc | apply Bel.drew | exact Bel.refl _ | refine Bel.set ?_ (by first | (simp; done) | (simp [go_sem]; done) | omega) _))
  have z5 : (n2 : Int) ≤ 300 := by omega
  by_cases q6 : 300 < n3
  · have HF := no (fun h => by have := HG.out.1 h; omega)
    have z6 : (300 : Int) < n3 := by omega
    clear no q6
    go_enter Try.func75, Try.ntmps75
    go_wp2
    go_region_held3 (fun q => q.cell? ⟨w.heap.size, 0, none⟩ = some (.slice a1 n1 c1) ∧ q.cell? ⟨w.heap.size, 1, none⟩ = some (.slice a2 n2 c2) ∧ q.cell? ⟨w.heap.size, 2, none⟩ = some (.slice a3 n3 c3)) (simp [go_sem, *]) (fail)
    all_goals go_wp2
    go_ret
    refine Ret.mk ?_ (?_ : Bel _ _)
    · exact HF.out
    · (repeat (first | with_reducible exact Bel.refl _ | with_reducible assumption | apply Bel.ext | apply Bel.alloc | apply Bel.drew | exact Bel.refl _ | refine Bel.set ?_ (by first | (simp; done) | (simp [go_sem]; done) | omega) _))
  have z6 : (n3 : Int) ≤ 300 := by omega
  obtain ⟨p1, p2⟩ := prod_in (a := n1) (b := n2) (c := n3) (by omega) (by omega) (by omega)
  have b1 : ((n1 * n2 : Nat) : Int) = (n1 : Int) * n2 := Int.natCast_mul _ _
  have b2 : ((n1 * n2 * n3 : Nat) : Int) = (n1 : Int) * n2 * n3 := by rw [Int.natCast_mul, Int.natCast_mul]
  have b3 : 0 ≤ (n1 : Int) * n2 := by omega
  have b4 : (n1 : Int) * n2 ≤ 90000 := by omega
  have b5 : 0 ≤ (n1 : Int) * n2 * n3 := by omega
  have b6 : (n1 : Int) * n2 * n3 ≤ 27000000 := by omega
  clear q1 q2 q3 q4 q5 q6
  by_cases q7 : 300 < n1 * n2 * n3
  · have HF := no (fun h => by have := HG.out.1 h; omega)
    have z7 : decide ((n1 : Int) * n2 * n3 ≤ 300) = false := decide_eq_false (by omega)
    clear no q7 b1 b2 p1 p2
    go_enter Try.func75, Try.ntmps75
    go_wp2
    go_region_held3 (fun q => q.cell? ⟨w.heap.size, 0, none⟩ = some (.slice a1 n1 c1) ∧ q.cell? ⟨w.heap.size, 1, none⟩ = some (.slice a2 n2 c2) ∧ q.cell? ⟨w.heap.size, 2, none⟩ = some (.slice a3 n3 c3)) (simp [go_sem, *]) (fail)
    all_goals go_wp2
    go_ret
    refine Ret.mk ?_ (?_ : Bel _ _)
    · exact HF.out
    · (repeat (first | with_reducible exact Bel.refl _ | with_reducible assumption | apply Bel.ext | apply Bel.alloc | apply Bel.drew | exact Bel.refl _ | refine Bel.set ?_ (by first | (simp; done) | (simp [go_sem]; done) | omega) _))
  · have HF : Hid (Value.bool true = v) := by
      have h : gridB A B C = true := HG.out.2 ⟨by omega, by omega, by omega, by omega, by omega, by omega, by omega⟩
      rw [← H.out, h]; exact rfl
    have z7 : decide ((n1 : Int) * n2 * n3 ≤ 300) = true := decide_eq_true (by omega)
    clear no q7 b1 b2 p1 p2
    go_enter Try.func75, Try.ntmps75
    go_wp2
    go_region_held3 (fun q => q.cell? ⟨w.heap.size, 0, none⟩ = some (.slice a1 n1 c1) ∧ q.cell? ⟨w.heap.size, 1, none⟩ = some (.slice a2 n2 c2) ∧ q.cell? ⟨w.heap.size, 2, none⟩ = some (.slice a3 n3 c3)) (simp [go_sem, *]) (fail)
    all_goals go_wp2
    go_ret
    refine Ret.mk ?_ (?_ : Bel _ _)
    · exact HF.out
    · (repeat (first | with_reducible exact Bel.refl _ | with_reducible assumption | apply Bel.ext | apply Bel.alloc | apply Bel.drew | exact Bel.refl _ | refine Bel.set ?_ (by first | (simp; done) | (simp [go_sem]; done) | omega) _))
end Go.Proofs.Ytjdcdcfhnpephaa
