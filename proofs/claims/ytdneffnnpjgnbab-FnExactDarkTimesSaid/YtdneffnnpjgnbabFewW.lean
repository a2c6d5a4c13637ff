/- Small things on lists of windows: appending one to a row of the call's own, copyOf, fewWindows. -/
import Derived.Laws.AppendOwnNone
import Derived.Test.YtdneffnnpjgnbabWithout
namespace Go.Proofs.Ytdneffnnpjgnbab
open Go.RowKit

theorem run_append_none_c {P : Program} (w : World) (base : Nat) (t ty e : TypeId) (i : TypeInfo) (size : Nat) (ht : P.underlying t = some (.slice e)) (hi : P.info? e = some i)
    (v : Value) (n : Nat) (xs : List Value) (hown : w.ownsRow base e size v n xs) (c : Nat) : (Builtin.append_ #[t, t] ty #[v, .slice none 0 c]).run P w = .ok v w := by
  rcases hown.2 with ⟨rfl, rfl⟩ | ⟨g, cap, cur, rfl, _, _, hnc, _⟩
  · simp [Builtin.append_, run_underlying ht, sizeOf, typeInfo, hi, Builtin.lenOf, Builtin.firstCells]
  · simp [Builtin.append_, run_underlying ht, sizeOf, typeInfo, hi, Builtin.lenOf, Builtin.firstCells, hnc, storeCells]
/-- 'append(out, xs...)' of a slice of windows onto row i of the call's own -/
theorem wpList_append_rd {P : Program} {ops : Array Oper} {rest : List Oper} {o : Oper} {a : Act} {X : World} {Q : Exit → Act → World → Prop} (hgd : o.guard = none) (s x : Operand) (t e : TypeId) (bytes : Nat)
    (ho : o.op = .call { callee := .builtin .append, args := #[s, x], argTypes := #[t, t] }) (F : AppF P t e 2 bytes)
    (W : World) (L : List Ent) (i : Nat) (v : Value) (n : Nat) (xs : List Value) (hi : L[i]? = some ⟨v, e, 2, n, xs⟩) (ad : Option Addr) (m c : Nat) (zs : List (Int × Int)) (hs : a.eval s = v) (hx : a.eval x = .slice ad m c)
    (hz : Sl cel2 X ad m c zs) (hM : Mem W X L) (h63 : n + m ≤ 1000000000000) (hby : bytes ≤ 100)
    (h : ∀ v' g, Mem W (ext W g) (L.set i ⟨v', e, 2, n + m, xs ++ cel2.row zs⟩) → wpList P ops Q rest (a.put o.dst v') (ext W g)) : wpList P ops Q (o :: rest) a X := by
  obtain ⟨hu, ii, z, hii, hz0, hz1, hz2, hz3⟩ := F
  have hown := hM.own i _ hi
  have hl : (cel2.row zs).length = m * 2 := by rw [cel2.row_len, hz.len]; rfl
  rcases ad with _ | ad
  · have hm0 : m = 0 := by
      rcases Nat.eq_zero_or_pos m with e | e
      · exact e
      · obtain ⟨_, _, h1, _⟩ := hz.at_ e; cases h1
    subst hm0
    have hrow : cel2.row zs = [] := List.eq_nil_of_length_eq_zero (by omega)
    have hset : L.set i ⟨v, e, 2, n, xs⟩ = L := by
      apply List.ext_getElem?
      intro j
      by_cases hij : i = j
      · subst hij
        rw [List.getElem?_set_self (List.getElem?_eq_some_iff.1 hi).1, hi]
      · rw [List.getElem?_set_ne hij]
    refine wpList_plain hgd fun K hK => ?_
    have hrun := run_append_none_c (P := P) X W.heap.size t o.type e ii 2 hu hii v n xs hown c
    unfold Oper.wp
    simp [execOp, ho, resolve, invoke, builtin, hs, hx, hrun, Result.andThen]
    have h2 := h v X
    rw [ext_of hM.bel, hrow, List.append_nil, Nat.add_zero, hset] at h2
    exact hK _ _ (h2 hM)
  · refine wpList_append_own_at _ hgd s x t ho W.heap.size e ii z 2 bytes hu hii hz0 hz1 hz2 hz3 (by decide) v n xs hs hown ad m c (cel2.row zs) hx hl (fun j u hj => ?_) (fun u hu => by unfold Cel.row at hu; obtain ⟨x, _, hx⟩ := List.mem_flatMap.1 hu; exact cel2.one x u hx) (by unfold maxLen; omega)
      (Nat.le_trans (Nat.mul_le_mul h63 hby) (by decide)) hM.bel.size fun v' w' hown' hg _ hat => ?_
    · have hj2 := (List.getElem?_eq_some_iff.1 hj).1
      obtain ⟨b, off, hab, _, hc⟩ := hz.at_ (by omega)
      cases hab
      have hk : j / 2 < zs.length := by have := hz.len; omega
      have hx2 : zs[j / 2]? = some zs[j / 2] := by simp
      have hm2 : j % 2 < (cel2.cells zs[j / 2]).length := by rw [cel2.len]; exact Nat.mod_lt _ (by decide)
      have hu2 := List.getElem?_eq_getElem hm2
      have h1 := cel2.row_get zs (j / 2) _ (j % 2) _ hx2 hu2
      rw [show j / 2 * cel2.size + j % 2 = j from by show j / 2 * 2 + j % 2 = j; omega, hj] at h1
      have h2 := hc (j / 2) _ hx2 (j % 2) _ hu2
      rw [← h1] at h2
      rw [addr_add, ← h2]
      congr 2
      show off + j = off + j / 2 * 2 + j % 2
      omega
    · have hb : Bel W w' := Below.grown hM.bel hg hM.bel.size (fun k hk => (hown.lt k hk).1)
      have hm := mem_put hM i hi ⟨v', e, 2, n + m, xs ++ cel2.row zs⟩ hown' hg hb (hat.imp id fun e b hb => by rw [e] at hb; cases hb; exact Nat.le_refl _)
      have e := ext_of hb
      have := h v' w'
      rw [e] at this
      exact this hm

set_option maxHeartbeats 2000000 in
theorem copyOfW_c (u : Value) (xs : List (Int × Int)) (hl : xs.length ≤ 1000000000) (w : World) (hu : Rd cel2 w u xs) :
    Calls Try.prog 28 #[u] w (RetRow 35 2 (fun v => v) xs.length (cel2.row xs) w) := by
  generalize hR : RetRow _ _ _ _ _ w = R
  have HR := Lib.hid hR
  clear hR
  obtain ⟨a, n, c, rfl, hs⟩ := hu.sl
  have HL := Lib.hid hs.len
  rw [← HL.out] at hl
  have HS := Lib.hid (fun x (hx : Bel w x) => hs.bel hx)
  have hM0 := mem_lit (mem_nil w) 35 2 [] 0 rfl (by unfold maxLen; omega)
  simp only [List.nil_append] at hM0
  have HM := Lib.hid hM0
  clear hs hu hM0
  go_enter Try.func28, Try.ntmps28
  go_wp2_with (at_builtin; refine wpList_append_rd rfl (.tmp 3) (.tmp 4) 24 35 16 rfl appWindow w _ 0 _ _ _ rfl a n c xs rfl rfl (HS.out _ ?_) HM.out (by omega) (by omega) ?_; (focus (repeat (first | with_reducible exact Bel.refl _ | with_reducible assumption | apply Bel.ext | apply Bel.alloc | apply Bel.drew | exact Bel.refl _))); intro v2 g2 hM2; simp only [List.set_cons_zero, List.nil_append, Nat.zero_add] at hM2)
  rw [← HR.out]
  have ho := hM2.own 0 _ rfl
  dsimp only at ho
  rw [HL.out] at ho
  exact RetRow.mk' rfl hM2.bel ho
set_option maxHeartbeats 1000000 in
theorem fewWindows_c (a : Option Addr) (n c : Nat) (hn : n ≤ 1000000) (w : World) :
    Calls Try.prog 23 #[.slice a n c] w (Same (.tuple #[if 30 < n then .slice none 0 0 else .slice a n c, .int .i64 (if 30 < n then 5 else 0)]) w) := by
  refine hide_same fun v H => ?_
  by_cases h : 30 < n
  · go_enter Try.func23, Try.ntmps23
    go_wp2
    refine bodyPost_ret (v := .tuple #[.slice none 0 0, .int .i64 5]) (by simp [results, Try.results23, go_sem]) rfl (Same.mk ?_)
    rw [← H.out]; simp [h]
  · go_enter Try.func23, Try.ntmps23
    go_wp2
    refine bodyPost_ret (v := .tuple #[.slice a n c, .int .i64 0]) (by simp [results, Try.results23, go_sem]) rfl (Same.mk ?_)
    rw [← H.out]; simp [h]
end Go.Proofs.Ytdneffnnpjgnbab
