/- For the walk of the reference's l15Made: rows and appends. -/
import Derived.BigRegion
import Derived.Test.YtdneffnnpjgnbabIn15
namespace Go.Proofs.Ytdneffnnpjgnbab
open Go.RowKit

theorem args_two {P : Program} {f : FuncId} {w : World} {Q : Ending → World → Prop} {v x : Value} (u : Value) (_ : v = u) (c : Calls P f #[v, x] w Q) : Calls P f #[v, x] w Q := c
theorem args_sl {P : Program} {f : FuncId} {w : World} {Q : Ending → World → Prop} {v x : Value} (a : Option Addr) (_ : ∃ n c, v = .slice a n c) (c : Calls P f #[v, x] w Q) : Calls P f #[v, x] w Q := c
theorem mem_of_own {W w : World} {v : Value} {e : TypeId} {size n : Nat} {cs : List Value} (hb : Bel W w) (ho : w.ownsRow W.heap.size e size v n cs) : Mem W w [⟨v, e, size, n, cs⟩] :=
  mem_snoc (L := []) (mem_bel (mem_nil W) hb) _ ho (fun j s h => by simp at h)
theorem row_at1 {w : World} {B b : Nat} {e : TypeId} {n c : Nat} {xs : List Int} (h : w.ownsRow B e 1 (.slice (some ⟨b, 0, none⟩) n c) n (celI.row xs)) {k : Nat} {x : Int} (hx : xs[k]? = some x) : w.cell? ⟨b, k, none⟩ = some (.int .i64 x) := by
  have g0 := h.cells (g := b) rfl _ _ (celI.row_get xs k x 0 _ hx rfl)
  rw [addr_add, Nat.zero_add] at g0
  have e : k * celI.size + 0 = k := by show k * 1 + 0 = k; omega
  rw [e] at g0
  exact g0

theorem step_append_mem {P : Program} {ops : Array Oper} {o : Oper} {a : Act} {Y : World} {K : Act → World → Prop} {Q : Exit → Act → World → Prop} {E : Prop} (hgd : o.guard = none) (s x : Operand) (t e : TypeId) (size bytes : Nat)
    (ho : o.op = .call { callee := .builtin .append, args := #[s, x], argTypes := #[t, t] }) (F : AppF P t e size bytes) (hsz : 0 < size)
    (W : World) (L : List Ent) (i : Nat) (v : Value) (n : Nat) (xs : List Value) (hi : L[i]? = some ⟨v, e, size, n, xs⟩) (m : Nat) (news : List Value) (hs : a.eval s = v) (b : Nat) (hx : a.eval x = .slice (some ⟨b, 0, none⟩) m m) (hl : news.length = m * size) (h1 : ∀ u ∈ news, u.oneCell' = true)
    (hnews : ∀ j u, news[j]? = some u → Y.cell? ⟨b, j, none⟩ = some u)
    (hM : Mem W Y L) (h63 : n + m ≤ 1000000000000) (hby : bytes ≤ 100)
    (h : ∀ v' g, Mem W (ext W g) (L.set i ⟨v', e, size, n + m, xs ++ news⟩) → K (a.put o.dst v') (ext W g)) :
    if Region.wanted o (yielded ops a.tmps) = true then Oper.wp P o a Y K Q else E := by
  have hw : Region.wanted o (yielded ops a.tmps) = true := by simp [Region.wanted, hgd]
  rw [if_pos hw]
  obtain ⟨hu, ii, z, hii, hz0, hz1, hz2, hz⟩ := F
  have hown := hM.own i _ hi
  dsimp only at hown
  obtain ⟨v', w', hr, h2, h3, h4, h5⟩ := run_append_own_at (P := P) Y W.heap.size t o.type e ii z size bytes hu hii hz0 hz1 hz2 hz hsz v n xs hown ⟨b, 0, none⟩ m m news hl (fun j u hu => by rw [addr_add, Nat.zero_add]; exact hnews j u hu) h1 (by unfold maxLen; omega)
    (Nat.le_trans (Nat.mul_le_mul h63 hby) (by decide)) hM.bel.size
  unfold Oper.wp execOp
  simp only [ho, resolve, invoke, builtin, Sem.run_bind, Sem.run_pure, Result.andThen_ok, List.map_toArray, List.map_cons, List.map_nil, hs, hx, hr]
  have hb : Bel W w' := Below.grown hM.bel h3 hM.bel.size (fun k hk => (hown.lt k hk).1)
  have hm := mem_put hM i hi ⟨v', e, size, n + m, xs ++ news⟩ h2 h3 hb (h5.imp id fun e b hb => by rw [e] at hb; cases hb; exact Nat.le_refl _)
  have e := ext_of hb
  have := h v' w'
  rw [e] at this
  exact this hm
theorem row_set_both (i : List (Int × Int)) (l : Int × Int) (z : Int) : ((cel2.row (i ++ [l])).set (i.length * 2) (.int .i64 l.1)).set (i.length * 2 + 1) (.int .i64 z) = cel2.row (i ++ [(l.1, z)]) := by
  rw [← row_set_to i l z]
  congr 1
  rw [Cel.row_append, Cel.row_one]
  have hl : (cel2.row i).length = i.length * 2 := cel2.row_len i
  rw [List.set_append_right _ _ (by omega), hl, Nat.sub_self]
  rfl
theorem segT_zero (r : Int) (xs ys : List (Int × Int)) : segT r xs ys 0 = [] := by simp [segT, madeSegs, joinL]

end Go.Proofs.Ytdneffnnpjgnbab
