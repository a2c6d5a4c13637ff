/- Making slices among the rows of a call; copies. -/
import Derived.Test.YthahkoclkjfkdaaNest
import Derived.Test.YthahkoclkjfkdaaTabPlain
namespace Go.Proofs.Ythahkoclkjfkdaa
open Go.RowKit

theorem madeCells_one (z : Value) (hz : z.cells = #[z]) (n : Nat) : (madeCells z.cells n).toList = List.replicate n z := by
  rw [hz]; unfold madeCells
  simp [Nat.mod_one, List.map_const']
theorem mem_own_snoc {W X x : World} {L : List Ent} (h : Mem W X L) (hb : Bel X x) (v : Value) (e : TypeId) (size n : Nat) (cs : List Value) (ho : x.ownsRow X.heap.size e size v n cs) : Mem W x (L ++ [⟨v, e, size, n, cs⟩]) := by
  refine mem_snoc (mem_bel h hb) _ (own_mono ho h.bel.size) fun j s hj b hb1 hb2 => ?_
  have h1 := ((h.own j s hj).lt b hb1).2
  have h2 := (ho.lt b hb2).1
  omega
/-- 'make([]T, n)', T of one cell: a row more of the call's own -/
theorem wpList_make_mem {P : Program} {ops : Array Oper} {rest : List Oper} {o : Oper} {a : Act} {X : World} {Q : Exit → Act → World → Prop}
    (hg : o.guard = none) (l c : Operand) (t e : TypeId) (bytes : Nat) (hop : o.op = Op.makeSlice t l c) (hu : P.underlying t = some (.slice e)) (z : Value) (hz : z.cells = #[z]) (hI : (P.info? e).map (fun i => (i.zero, i.size, i.bytes)) = some (some z, 1, bytes)) (n : Nat) (hl : a.eval l = .int .i64 (n : Int)) (hc : a.eval c = .int .i64 (n : Int))
    (hn : n ≤ 1000000000) (hby : bytes ≤ 100) (W : World) (L : List Ent) (hM : Mem W X L)
    (hK : ∀ g, Mem W (ext W g) (L ++ [⟨.slice (some ⟨X.heap.size, 0, none⟩) n n, e, 1, n, List.replicate n z⟩]) → wpList P ops Q rest (a.put o.dst (.slice (some ⟨X.heap.size, 0, none⟩) n n)) (ext W g)) :
    wpList P ops Q (o :: rest) a X := by
  obtain ⟨i, hi, hz0, hz1, hz2⟩ := info_parts hI
  refine wpList_make_full X hg l c t hop X.heap.size e i z 1 hu hi hz0 hz1 .i64 .i64 (n : Int) (n : Int) n hl hc rfl rfl ?_ (by unfold maxLen; omega) (Nat.le_refl _) fun w' ho hgr => ?_
  · rw [hz2]; exact Nat.le_trans (Nat.mul_le_mul hby hn) (by decide)
  · have hb : Bel X w' := Below.grown (Below.refl _ _) hgr (Nat.le_refl _) (fun k hk => by cases hk)
    rw [Nat.mul_one, madeCells_one z hz] at ho
    have hm := mem_own_snoc hM hb _ e 1 n _ ho
    obtain ⟨g, hg⟩ := ext_ex hm.bel
    have := hK g (hg ▸ hm)
    rw [← hg] at this; exact this
theorem mem_far {W g : World} {L : List Ent} (h : Mem W (ext W g) L) (i : Nat) {b n c n' : Nat} {e : TypeId} {size : Nat} {cs : List Value} (hi : L[i]? = some ⟨.slice (some ⟨b, 0, none⟩) n c, e, size, n', cs⟩) (h0 : 0 < n') :
    (∀ j u, cs[j]? = some u → farCell W g b j = some u) ∧ (∀ j, farMark W g b j = false) ∧ W.heap.size ≤ b ∧ b < (ext W g).heap.size ∧ ¬ b < W.heap.size := by
  obtain ⟨b', c', hv, h1, h2, _, _, h3, h4⟩ := own_far (h.own i _ hi) h0
  simp only [Value.slice.injEq, Option.some.injEq, Addr.mk.injEq] at hv
  obtain ⟨⟨rfl, _⟩, _⟩ := hv
  exact ⟨h3, h4, h1, h2, by omega⟩
theorem mem_row_v {W w : World} {L : List Ent} (h : Mem W w L) (i : Nat) {v : Value} {e : TypeId} {size n : Nat} {cs : List Value} (hi : L[i]? = some ⟨v, e, size, n, cs⟩) (h0 : 0 < n) : ∃ b c, v = .slice (some ⟨b, 0, none⟩) n c := by
  rcases (h.own i _ hi).2 with ⟨_, h2⟩ | ⟨b, c, cur, hv, _⟩
  · simp only at h2; omega
  · exact ⟨b, c, hv⟩
theorem appIntT : AppF Try.prog 27 2 1 8 := appF_of (z := .int .i64 0) Try.underlying27 (by kernel_rfl) rfl
set_option maxHeartbeats 1000000 in
theorem copyOf_c (u : Value) (xs : List Int) (hl : xs.length ≤ 1000000000) (h0 : 0 < xs.length) (w : World) (hu : Rd celI w u xs) :
    Calls Try.prog 61 #[u] w (RetRow 2 1 (fun v => v) xs.length (celI.row xs) w) := by
  generalize hR : RetRow _ _ _ _ _ w = R
  have HR := Lib.hid hR
  clear hR
  obtain ⟨a, n, c, rfl, hs⟩ := hu.sl
  have HL := Lib.hid hs.len
  rw [← HL.out] at h0 hl
  obtain ⟨b, off, rfl, hb⟩ := hs.base h0
  obtain ⟨_, _, ha, _, hcells⟩ := hs.at_ h0
  cases ha
  have HCL := Lib.hid hcells
  clear hcells
  go_enter Try.func61, Try.ntmps61
  go_wp2_with (at_builtin; refine wpList_append_ext rfl (.tmp 3) (.tmp 4) 27 2 1 8 rfl appIntT (by decide) w _ 0 [] rfl (own_empty w _ _ _ (Nat.le_refl _)) ⟨b, off, none⟩ n c (celI.row xs) rfl (by rw [rowI_len, HL.out, Nat.mul_one]) ?_ (fun u hu => by unfold Cel.row at hu; obtain ⟨x, _, hx⟩ := List.mem_flatMap.1 hu; exact celI.one x u hx) ?_ (by omega) (by omega) ?_; (focus (intro j u hj; obtain ⟨x, hx, rfl⟩ := rowI_inv hj; have h9 := HCL.out j x hx 0 _ rfl; rw [addr_add]; simp only [celI, Nat.mul_one, Nat.add_zero] at h9; rw [Below.cell (by (repeat (first | with_reducible exact Bel.refl _ | with_reducible assumption | apply Bel.ext | apply Bel.alloc | apply Bel.drew | exact Bel.refl _ | refine Bel.set ?_ (by first | (simp; done) | (simp [go_sem]; done) | omega) _)) : Bel w _) (p := ⟨b, off + j, none⟩) hb]; exact h9)); (focus (repeat (first | with_reducible exact Bel.refl _ | with_reducible assumption | apply Bel.ext | apply Bel.alloc | apply Bel.drew | exact Bel.refl _))); intro v2 g2 hown2 hgr2)
  rw [← HR.out]
  rw [Nat.zero_add, List.nil_append, HL.out] at hown2
  exact RetRow.mk' rfl (by (repeat (first | with_reducible exact Bel.refl _ | with_reducible assumption | apply Bel.ext | apply Bel.alloc | apply Bel.drew | exact Bel.refl _ | refine Bel.set ?_ (by first | (simp; done) | (simp [go_sem]; done) | omega) _)) : Bel _ _) hown2
end Go.Proofs.Ythahkoclkjfkdaa
