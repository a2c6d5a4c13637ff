/- slices.Repeat of one number. -/
import Derived.Test.YthahkoclkjfkdaaTab
import Derived.Laws.CopyOwn
namespace Go.Proofs.Ythahkoclkjfkdaa
open Go.RowKit

set_option maxHeartbeats 1000000 in
theorem mul64_c (n : Nat) (h : n ≤ 6) (w : World) : Calls Try.prog 66 #[.int .u64 1, .int .u64 n] w (Same (.tuple #[.int .u64 0, .int .u64 n]) w) := by
  refine hide_same fun v H => ?_
  have hn : n = 0 ∨ n = 1 ∨ n = 2 ∨ n = 3 ∨ n = 4 ∨ n = 5 ∨ n = 6 := by omega
  rcases hn with rfl | rfl | rfl | rfl | rfl | rfl | rfl
  all_goals
    go_enter Try.func66, Try.ntmps66
    go_wp2
    go_ret2
    refine Same.mk ?_
    rw [← H.out]; kernel_rfl
set_option maxHeartbeats 1000000 in
theorem mul_c (n : Nat) (h : n ≤ 6) (w : World) : Calls Try.prog 62 #[.int .u64 1, .int .u64 n] w (Same (.tuple #[.int .u64 0, .int .u64 n]) w) := by
  refine hide_same fun v H => ?_
  have wn : IntKind.u64.wrap (n : Int) = (n : Int) := by rw [IntKind.wrap_u64]; omega
  go_enter Try.func62, Try.ntmps62
  go_wp2_with (first | (go_at_call 66; refine Calls.mono (mul64_c n h _) ?_; rintro ee ww ⟨rfl, rfl⟩))
  go_ret2
  refine Same.mk ?_
  rw [← H.out]; simp
def repC (k n : Nat) (y : Int) : List Value := List.replicate k (.int .i64 y) ++ List.replicate (n - k) (.int .i64 0)
theorem repC_len {k n : Nat} (h : k ≤ n) (y : Int) : (repC k n y).length = n := by simp [repC]; omega
theorem splice_rep (y : Int) {n k m : Nat} (h : k + m ≤ n) : splice (repC k n y) k (List.replicate m (.int .i64 y)) = repC (k + m) n y := by
  unfold splice repC
  rw [List.take_append_of_le_length (by simp), List.take_of_length_le (by simp)]
  rw [List.drop_append, List.drop_of_length_le (by simp), List.nil_append, List.drop_replicate]
  rw [← List.append_assoc, List.replicate_append_replicate]
  congr 2
  simp
  omega
theorem repC_one (n : Nat) (y : Int) : ∀ v ∈ List.replicate n (Value.int .i64 y), v.oneCell' = true := fun v hv => by rw [List.mem_replicate] at hv; rw [hv.2]; rfl
theorem own_of_heap {w wr : World} {G : Nat} {T : TypeId} {cs : List Value} {n : Nat} (hB : w.heap.size ≤ G) (hn : n ≤ maxLen) (hl : cs.length = n) (h : wr.heap[G]? = some (.cells cs.toArray T (0, 0))) :
    wr.ownsRow w.heap.size T 1 (.slice (some ⟨G, 0, none⟩) n n) n cs :=
  ⟨by omega, .inr ⟨G, n, cs.toArray, rfl, hB, h, Nat.le_refl _, hn, by simp [hl], by simp [← hl]⟩⟩
theorem heap_cells {w wr : World} {G : Nat} {T : TypeId} {cs : List Value} {n : Nat} (hB : w.heap.size ≤ G) (hn : n ≤ maxLen) (hl : cs.length = n) (h : wr.heap[G]? = some (.cells cs.toArray T (0, 0))) {j : Nat} {v : Value} (hj : cs[j]? = some v) :
    wr.cell? ⟨G, j, none⟩ = some v := by
  have := (own_of_heap hB hn hl h).cells (g := G) rfl j v hj
  rw [addr_add, Nat.zero_add] at this; exact this
theorem rep_celI (n : Nat) (y : Int) : celI.row (List.replicate n y) = List.replicate n (.int .i64 y) := by
  induction n with
  | zero => rfl
  | succ n ih => simp only [List.replicate_succ, Cel.row, List.flatMap_cons] at ih ⊢; rw [ih]; rfl
/-- 'make([]T, n)': the row's block, known whole -/
theorem wpList_make_rep {P : Program} {ops : Array Oper} {rest : List Oper} {o : Oper} {a : Act} {X : World} {Q : Exit → Act → World → Prop}
    (hg : o.guard = none) (l c : Operand) (t e : TypeId) (bytes : Nat) (hop : o.op = Op.makeSlice t l c) (hu : P.underlying t = some (.slice e)) (z : Value) (hz : z.cells = #[z]) (hI : (P.info? e).map (fun i => (i.zero, i.size, i.bytes)) = some (some z, 1, bytes)) (n : Nat) (hl : a.eval l = .int .i64 (n : Int)) (hc : a.eval c = .int .i64 (n : Int))
    (hn : n ≤ 1000000000) (hby : bytes ≤ 100)
    (hK : ∀ g, Hid ((ext X g).heap[X.heap.size]? = some (.cells (List.replicate n z).toArray e (0, 0))) → wpList P ops Q rest (a.put o.dst (.slice (some ⟨X.heap.size, 0, none⟩) n n)) (ext X g)) :
    wpList P ops Q (o :: rest) a X := by
  refine wpList_make_mem hg l c t e bytes hop hu z hz hI n hl hc hn hby X [] (mem_nil X) fun g hM => hK g ?_
  have h9 := (hM.own 0 _ rfl).2
  dsimp only at h9
  rcases h9 with ⟨h1, _⟩ | ⟨gg, cap, cur, h1, h2, h3, h4, h5, h6, h7⟩
  · cases h1
  · simp only [Value.slice.injEq, Option.some.injEq, Addr.mk.injEq] at h1
    obtain ⟨⟨rfl, _, _⟩, _, rfl⟩ := h1
    have h8 : cur.toList.length = n := by simpa using h6
    have h10 : cur.toList = List.replicate n z := by
      rw [← h7, List.take_of_length_le (by simp [h8])]
    refine (show _ = _ from ?_)
    rw [h3, ← h10]
theorem rep1_cell {w g : World} {b o : Nat} {u : Value} (hb : b < w.heap.size) (hc : w.cell? ⟨b, o, none⟩ = some u) (j : Nat) (v : Value) (hj : (List.replicate 1 u)[j]? = some v) : (ext w g).cell? ((⟨b, o, none⟩ : Addr).add j) = some v := by
  rcases j with _ | j
  · simp at hj; subst hj
    rw [addr_add, Nat.add_zero, ext_cell w g hb]; exact hc
  · simp at hj
set_option maxHeartbeats 2000000 in
theorem Repeat_c (b o c : Nat) (y : Int) (n : Nat) (h0 : 1 ≤ n) (h : n ≤ 6) (w : World) (hb : b < w.heap.size) (hc : w.cell? ⟨b, o, none⟩ = some (.int .i64 y)) (h1 : 1 ≤ c) (hcm : c ≤ maxLen) :
    Calls Try.prog 57 #[.slice (some ⟨b, o, none⟩) 1 c, .int .i64 n] w (RetRow 2 1 (fun v => v) n (celI.row (List.replicate n y)) w) := by
  generalize hR : RetRow _ _ _ _ _ w = R
  have HR := Lib.hid hR
  clear hR
  unfold maxLen at hcm
  have wn : IntKind.u64.wrap (n : Int) = (n : Int) := by rw [IntKind.wrap_u64]; omega
  have hM := mem_nil w
  have HB := Lib.hid hb
  have HC := Lib.hid hc
  have L1 : (List.replicate 1 (Value.int .i64 y)).length = Nat.min 1 n := by rw [List.length_replicate]; exact (Nat.min_eq_left h0).symm
  have L2 : 0 + (List.replicate 1 (Value.int .i64 y)).length ≤ (repC 0 n y).length := by rw [repC_len (Nat.zero_le _)]; simp; omega
  have HL1 := Lib.hid L1
  have HL2 := Lib.hid L2
  have HSP := Lib.hid (splice_rep y (n := n) (k := 0) (m := 1) (by omega))
  clear L1 L2 hb hc
  go_enter Try.func57, Try.ntmps57
  go_wp2_with (first | (go_at_call 62; refine Calls.mono (mul_c n h _) ?_; rintro ee ww ⟨rfl, rfl⟩) | (at_make; refine wpList_make_rep rfl _ _ 27 2 8 rfl Try.underlying27 (.int .i64 0) rfl (by kernel_rfl) n rfl rfl (by omega) (by omega) ?_; intro g2 hrow) | (refine wpList_copy_splice rfl (.tmp 31) (.tmp 32) 27 27 rfl 2 Try.underlying27 (by kernel_rfl) _ _ _ _ _ _ rfl rfl w.heap.size 0 (repC 0 n y) 2 (by exact hrow.out) (List.replicate 1 (.int .i64 y)) HL1.out (fun _ => ⟨rfl, _, rfl, rep1_cell HB.out HC.out⟩) HL2.out (repC_one 1 y) w.heap.size w ((Bel.refl w).ext _) (Nat.le_refl _) ?_; intro w3 hg3 hb3))
  have HG3 : Hid (w3.heap[w.heap.size]? = some (.cells (repC 1 n y).toArray 2 (0, 0))) := Lib.hid (by rw [hg3.out, HSP.out])
  clear hg3
  go_loopw [8] (fun i wr => ∃ k : Nat, 1 ≤ k ∧ k ≤ n ∧ i = .int .i64 k ∧ Bel w wr ∧ Hid (wr.heap[w.heap.size]? = some (.cells (repC k n y).toArray 2 (0, 0)))) (fun i _ => n - (intOf i).toNat)
  case atStart => exact ⟨1, by omega, by omega, by go_num, hb3, HG3⟩
  case round =>
    clear HG3
    obtain ⟨k, k1, k2, rfl, hbel, hrow⟩ := hrel
    by_cases hlt : k < n
    · obtain ⟨m, hm⟩ : ∃ m, m = Nat.min k (n - k) := ⟨_, rfl⟩
      have m1 : 1 ≤ m := by rw [hm]; exact Nat.le_min.2 ⟨k1, by omega⟩
      have m2 : m ≤ k := by rw [hm]; exact Nat.min_le_left _ _
      have m3 : k + m ≤ n := by have h9 : Nat.min k (n - k) ≤ n - k := Nat.min_le_right _ _; rw [← hm] at h9; omega
      have HM := Lib.hid hm
      clear hm
      have L1 := Lib.hid (show (List.replicate m (Value.int .i64 y)).length = Nat.min k (n - k) by rw [List.length_replicate]; exact HM.out)
      have L2 := Lib.hid (show k + (List.replicate m (Value.int .i64 y)).length ≤ (repC k n y).length by rw [repC_len k2, List.length_replicate]; exact m3)
      have HS := Lib.hid (splice_rep y m3)
      have HP := Lib.hid (fun (W : World) (hW : W.heap[w.heap.size]? = some (.cells (repC k n y).toArray 2 (0, 0))) (j : Nat) (v : Value) (hj : (List.replicate m (Value.int .i64 y))[j]? = some v) => show W.cell? ((⟨w.heap.size, 0, none⟩ : Addr).add j) = some v from by
        rw [addr_add, Nat.zero_add]
        refine heap_cells (w := w) (Nat.le_refl _) (by unfold maxLen; omega) (repC_len k2 y) hW ?_
        obtain ⟨hj1, hj2⟩ := List.getElem?_eq_some_iff.1 hj
        rw [List.length_replicate] at hj1
        rw [List.getElem_replicate] at hj2
        subst hj2
        unfold repC
        rw [List.getElem?_append_left (by simp; omega)]
        rw [List.getElem?_replicate, if_pos (by omega)])
      go_wp2_with fail
      have hnk : ¬ n = k := by omega
      have hwr : IntKind.i64.wrap ((k : Int) + m) = (k : Int) + m := IntWalk.i64_in _ (by omega)
      go_region_law ((refine step_copy_splice rfl (.tmp 41) (.tmp 44) 27 27 rfl 2 Try.underlying27 (by kernel_rfl) (some ⟨w.heap.size, k, none⟩) (some ⟨w.heap.size, 0, none⟩) (n - k) (n - k) k n (by first | kernel_rfl | (simp [go_sem]; done)) (by first | kernel_rfl | (simp [go_sem]; done)) w.heap.size k (repC k n y) 2 (by exact hrow.out) (List.replicate m (.int .i64 y)) L1.out (fun _ => ⟨rfl, _, rfl, HP.out _ (by exact hrow.out)⟩) L2.out (repC_one m y) w.heap.size w (by repeat (first | exact hbel | apply Bel.drew)) (Nat.le_refl _) ?_; intro w4 hg4 hb4))
      rw [HS.out] at hg4
      go_simp
      go_roundw
      case rel =>
        repeat apply Exists.intro
        refine ⟨⟨k + m, by omega, m3, ?_, hb4, by first | exact hg4 | exact Lib.hid rfl⟩, rfl⟩
        go_num
      case measure => simp [intOf]; omega
    · have hkn : k = n := by omega
      subst hkn
      go_wp2
      rw [← HR.out]
      refine RetRow.mk' rfl hbel ?_
      have ho := own_of_heap (Nat.le_refl _) (by unfold maxLen; omega) (repC_len (Nat.le_refl _) y) hrow.out
      rw [rep_celI]
      have e : repC k k y = List.replicate k (.int .i64 y) := by simp [repC]
      rw [e] at ho; exact ho
end Go.Proofs.Ythahkoclkjfkdaa
