/- The rows that a call has made since the world W, kept apart; how contracts carry them on; no program in sight. -/
import Derived.Test.YtdneffnnpjgnbabRow
import Derived.Maps.AppendAt
namespace Go.Proofs.Ytdneffnnpjgnbab
open Go.RowKit

structure Ent where
  v : Value
  e : TypeId
  size : Nat
  n : Nat
  cells : List Value

def Apart (r s : Ent) : Prop := ∀ b, r.v.ownBlock = some b → s.v.ownBlock ≠ some b

structure Mem (W w : World) (L : List Ent) : Prop where
  bel : Bel W w
  own : ∀ (i : Nat) (r : Ent), L[i]? = some r → w.ownsRow W.heap.size r.e r.size r.v r.n r.cells
  apart : ∀ (i j : Nat) (r s : Ent), L[i]? = some r → L[j]? = some s → i ≠ j → Apart r s

theorem mem_nil (W : World) : Mem W W [] := ⟨Bel.refl _, fun i r h => by simp at h, fun i j r s h => by simp at h⟩

theorem mem_bel {W w x : World} {L : List Ent} (h : Mem W w L) (hb : Bel w x) : Mem W x L :=
  ⟨Below.trans h.bel (Below.mono hb h.bel.size), fun i r hi => own_bel (h.own i r hi) hb, h.apart⟩

theorem rd_of {α : Type} {C : Cel α} {W w : World} {L : List Ent} {v : Value} {e : TypeId} {xs : List α} (h : Mem W w L) (i : Nat) (hi : L[i]? = some ⟨v, e, C.size, xs.length, C.row xs⟩) : Rd C w v xs :=
  rd_of_row (h.own i _ hi)

theorem mem_ret {P : Program} {f : FuncId} {args : Array Value} {W w0 w : World} {L : List Ent} {v : Value} (h : Mem W w0 L) (hb : Bel w0 w) (c : Calls P f args w (Ret v w)) :
    Calls P f args w fun e w' => e = .returned v ∧ ∃ g, w' = ext W g ∧ Mem W (ext W g) L := c.mono fun _ _ ⟨he, g, hw⟩ => by
  have hb2 : Bel w (ext w g) := (Bel.refl w).ext g
  rw [← hw] at hb2
  have hm := mem_bel (mem_bel h hb) hb2
  obtain ⟨g', hg⟩ := ext_ex hm.bel
  exact ⟨he, g', hg, hg ▸ hm⟩

theorem mem_row {P : Program} {f : FuncId} {args : Array Value} {W w0 w : World} {L : List Ent} {e : TypeId} {size : Nat} {mk : Value → Value} {n : Nat} {cells : List Value} (h : Mem W w0 L) (hb : Bel w0 w)
    (c : Calls P f args w (RetRow e size mk n cells w)) :
    Calls P f args w fun en w' => ∃ v g, en = .returned (mk v) ∧ w' = ext W g ∧ Mem W (ext W g) (L ++ [⟨v, e, size, n, cells⟩]) := c.mono fun _ _ ⟨v, g, he, hw, ho⟩ => by
  have h1 := mem_bel h hb
  have hb2 : Bel w (ext w g) := (Bel.refl w).ext g
  rw [← hw] at hb2
  have h2 := mem_bel h1 hb2
  obtain ⟨g', hg⟩ := ext_ex h2.bel
  refine ⟨v, g', he, hg, hg ▸ h2.bel, ?_, ?_⟩
  · intro i r hi
    rw [← hg]
    rcases Nat.lt_or_ge i L.length with hl | hl
    · rw [List.getElem?_append_left hl] at hi; exact h2.own i r hi
    · rw [List.getElem?_append_right hl] at hi
      have hi0 : i - L.length = 0 := by rcases Nat.eq_zero_or_pos (i - L.length) with h | h; exact h; rw [List.getElem?_eq_none (by simp; omega)] at hi; cases hi
      rw [hi0] at hi; simp at hi; subst hi
      rw [hw]; exact own_mono ho h1.bel.size
  · have key : ∀ (i : Nat) (r : Ent), L[i]? = some r → Apart r ⟨v, e, size, n, cells⟩ ∧ Apart ⟨v, e, size, n, cells⟩ r := by
      intro i r hi
      have l1 := (h1.own i r hi).lt
      have l2 := ho.lt
      refine ⟨fun b hb hb' => ?_, fun b hb hb' => ?_⟩
      · have := l1 b hb; have := l2 b hb'; omega
      · have := l1 b hb'; have := l2 b hb; omega
    intro i j r s hi hj hij
    rcases Nat.lt_or_ge i L.length with hl | hl <;> rcases Nat.lt_or_ge j L.length with hl' | hl'
    · rw [List.getElem?_append_left hl] at hi; rw [List.getElem?_append_left hl'] at hj; exact h1.apart i j r s hi hj hij
    · rw [List.getElem?_append_left hl] at hi; rw [List.getElem?_append_right hl'] at hj
      have : s = ⟨v, e, size, n, cells⟩ := by
        have h0 : j - L.length = 0 := by rcases Nat.eq_zero_or_pos (j - L.length) with h | h; exact h; rw [List.getElem?_eq_none (by simp; omega)] at hj; cases hj
        rw [h0] at hj; simp at hj; exact hj.symm
      subst this; exact (key i r hi).1
    · rw [List.getElem?_append_left hl'] at hj; rw [List.getElem?_append_right hl] at hi
      have : r = ⟨v, e, size, n, cells⟩ := by
        have h0 : i - L.length = 0 := by rcases Nat.eq_zero_or_pos (i - L.length) with h | h; exact h; rw [List.getElem?_eq_none (by simp; omega)] at hi; cases hi
        rw [h0] at hi; simp at hi; exact hi.symm
      subst this; exact (key j s hj).2
    · rw [List.getElem?_append_right hl] at hi; rw [List.getElem?_append_right hl'] at hj
      have h0 : i - L.length = 0 := by rcases Nat.eq_zero_or_pos (i - L.length) with h | h; exact h; rw [List.getElem?_eq_none (by simp; omega)] at hi; cases hi
      have h0' : j - L.length = 0 := by rcases Nat.eq_zero_or_pos (j - L.length) with h | h; exact h; rw [List.getElem?_eq_none (by simp; omega)] at hj; cases hj
      omega

theorem mem_mark {P : Program} {f : FuncId} {args : Array Value} {W w0 w : World} {L : List Ent} {k : Int} (h : Mem W w0 L) (hb : Bel w0 w) (i : Nat) {r : Ent} (hi : L[i]? = some r)
    (c : Mem W w L → Calls P f args w (RetMark r.v r.e r.size r.n k W w)) :
    Calls P f args w fun en w' => en = .returned (.int .i64 (k + (r.n * r.size : Nat))) ∧ ∃ g, w' = ext W g ∧ Mem W (ext W g) (L.set i { r with cells := markCells k (r.n * r.size) }) := (c (mem_bel h hb)).mono fun _ _ ⟨he, g, hw, ho, hg⟩ => by
  have h1 := mem_bel h hb
  refine ⟨he, g, hw, (Bel.refl W).ext g, ?_, ?_⟩
  · intro j s hj
    by_cases hij : i = j
    · subst hij
      have hlt : i < L.length := (List.getElem?_eq_some_iff.1 hi).1
      rw [List.getElem?_set_self hlt] at hj
      cases hj; exact ho
    · rw [List.getElem?_set_ne hij] at hj
      refine (h1.own j s hj).kept hg ?_
      cases hs : s.v.ownBlock with
      | none => exact .inl rfl
      | some b => exact .inr (fun e => h1.apart j i s r hj hi (Ne.symm hij) b hs e.symm)
  · intro j l s t hj hl hjl
    have back : ∀ (j : Nat) (s : Ent), (L.set i { r with cells := markCells k (r.n * r.size) })[j]? = some s → ∃ s', L[j]? = some s' ∧ s'.v = s.v := by
      intro j s hj
      by_cases hij : i = j
      · subst hij
        have hlt : i < L.length := (List.getElem?_eq_some_iff.1 hi).1
        rw [List.getElem?_set_self hlt] at hj
        cases hj; exact ⟨r, hi, rfl⟩
      · rw [List.getElem?_set_ne hij] at hj; exact ⟨s, hj, rfl⟩
    obtain ⟨s', h3, h4⟩ := back j s hj
    obtain ⟨t', h5, h6⟩ := back l t hl
    have := h1.apart j l s' t' h3 h5 hjl
    unfold Apart at this ⊢
    rw [h4, h6] at this; exact this

/-- Row i put anew: what else the call has made stays. -/
theorem mem_put {W w x : World} {L : List Ent} (h : Mem W w L) (i : Nat) {r : Ent} (hi : L[i]? = some r) (r' : Ent) (ho : x.ownsRow W.heap.size r'.e r'.size r'.v r'.n r'.cells)
    (hg : w.grownBy x r.v.ownBlock) (hb : Bel W x) (hat : r'.v.ownBlock = r.v.ownBlock ∨ ∀ b, r'.v.ownBlock = some b → w.heap.size ≤ b) : Mem W x (L.set i r') := by
  have hlt : i < L.length := (List.getElem?_eq_some_iff.1 hi).1
  have get : ∀ (j : Nat) (s : Ent), (L.set i r')[j]? = some s → (j = i ∧ s = r') ∨ (j ≠ i ∧ L[j]? = some s) := by
    intro j s hj
    by_cases hij : i = j
    · subst hij
      rw [List.getElem?_set_self hlt] at hj
      cases hj; exact .inl ⟨rfl, rfl⟩
    · rw [List.getElem?_set_ne hij] at hj; exact .inr ⟨Ne.symm hij, hj⟩
  have key : ∀ (j : Nat) (s : Ent), j ≠ i → L[j]? = some s → Apart s r' ∧ Apart r' s := by
    intro j s hj hs
    have a1 := h.apart j i s r hs hi hj
    have l1 := (h.own j s hs).lt
    unfold Apart at *
    rcases hat with e | f
    · rw [e]; exact ⟨a1, fun b hb hb' => a1 b hb' hb⟩
    · refine ⟨fun b hb hb' => ?_, fun b hb hb' => ?_⟩
      · have := f b hb'; have := l1 b hb; omega
      · have := f b hb; have := l1 b hb'; omega
  refine ⟨hb, ?_, ?_⟩
  · intro j s hj
    rcases get j s hj with ⟨rfl, rfl⟩ | ⟨hij, hs⟩
    · exact ho
    · refine (h.own j s hs).kept hg ?_
      cases hv : s.v.ownBlock with
      | none => exact .inl rfl
      | some b => exact .inr (fun e => h.apart j i s r hs hi hij b hv e.symm)
  · intro j l s t hj hl hjl
    rcases get j s hj with ⟨rfl, rfl⟩ | ⟨hij, hs⟩ <;> rcases get l t hl with ⟨rfl, rfl⟩ | ⟨hil, ht⟩
    · omega
    · exact (key l t hil ht).2
    · exact (key j s hij hs).1
    · exact h.apart j l s t hs ht hjl
theorem mem_snoc {W w : World} {L : List Ent} (h : Mem W w L) (r : Ent) (ho : w.ownsRow W.heap.size r.e r.size r.v r.n r.cells) (hf : ∀ (j : Nat) (s : Ent), L[j]? = some s → Apart s r) : Mem W w (L ++ [r]) := by
  have get : ∀ (j : Nat) (s : Ent), (L ++ [r])[j]? = some s → (j = L.length ∧ s = r) ∨ (j < L.length ∧ L[j]? = some s) := by
    intro j s hj
    rcases Nat.lt_or_ge j L.length with hl | hl
    · rw [List.getElem?_append_left hl] at hj; exact .inr ⟨hl, hj⟩
    · rw [List.getElem?_append_right hl] at hj
      rcases Nat.eq_zero_or_pos (j - L.length) with e | e
      · rw [e] at hj; simp at hj; exact .inl ⟨by omega, hj.symm⟩
      · rw [List.getElem?_eq_none (by simp; omega)] at hj; cases hj
  refine ⟨h.bel, ?_, ?_⟩
  · intro j s hj
    rcases get j s hj with ⟨_, rfl⟩ | ⟨_, hs⟩
    · exact ho
    · exact h.own j s hs
  · intro j l s t hj hl hjl
    rcases get j s hj with ⟨rfl, rfl⟩ | ⟨h1, hs⟩ <;> rcases get l t hl with ⟨rfl, rfl⟩ | ⟨h2, ht⟩
    · omega
    · have := hf l t ht
      exact fun b hb hb' => this b hb' hb
    · exact hf j s hs
    · exact h.apart j l s t hs ht hjl
/-- what a callee has made since w joins what was made before -/
theorem mem_app {W w w' : World} {L M : List Ent} (h : Mem W w L) (k : Mem w w' M) : Mem W w' (L ++ M) := by
  have get : ∀ (j : Nat) (s : Ent), (L ++ M)[j]? = some s → (j < L.length ∧ L[j]? = some s) ∨ (L.length ≤ j ∧ M[j - L.length]? = some s) := by
    intro j s hj
    rcases Nat.lt_or_ge j L.length with hl | hl
    · rw [List.getElem?_append_left hl] at hj; exact .inl ⟨hl, hj⟩
    · rw [List.getElem?_append_right hl] at hj; exact .inr ⟨hl, hj⟩
  have cross : ∀ (i j : Nat) (r s : Ent), L[i]? = some r → M[j]? = some s → Apart r s ∧ Apart s r := by
    intro i j r s hr hs
    have l1 := (h.own i r hr).lt
    have l2 := (k.own j s hs).lt
    refine ⟨fun b hb hb' => ?_, fun b hb hb' => ?_⟩
    · have := l1 b hb; have := l2 b hb'; omega
    · have := l1 b hb'; have := l2 b hb; omega
  refine ⟨Below.trans h.bel (Below.mono k.bel h.bel.size), ?_, ?_⟩
  · intro i r hi
    rcases get i r hi with ⟨_, hr⟩ | ⟨_, hr⟩
    · exact own_bel (h.own i r hr) k.bel
    · exact own_mono (k.own _ r hr) h.bel.size
  · intro i j r s hi hj hij
    rcases get i r hi with ⟨h1, hr⟩ | ⟨h1, hr⟩ <;> rcases get j s hj with ⟨h2, hs⟩ | ⟨h2, hs⟩
    · exact h.apart i j r s hr hs hij
    · exact (cross i _ r s hr hs).1
    · exact (cross j _ s r hs hr).2
    · exact k.apart _ _ r s hr hs (by omega)
/-- a literal slice that was just made joins the rows -/
theorem mem_lit {W X : World} {L : List Ent} (h : Mem W X L) (e : TypeId) (size : Nat) (cs : List Value) (n : Nat) (hn : cs.length = n * size) (hm : n ≤ maxLen) :
    Mem W (X.alloc (.cells cs.toArray e)) (L ++ [⟨.slice (some ⟨X.heap.size, 0, none⟩) n n, e, size, n, cs⟩]) := by
  refine mem_snoc (mem_bel h ((Bel.refl X).alloc _)) _ (own_lit X W.heap.size e size cs n hn h.bel.size hm) fun j s hj b hb hb' => ?_
  have := ((h.own j s hj).lt b hb).2
  simp [Value.ownBlock] at hb'
  omega
/-- 'append(out, x)' onto row i of the call's own, of elements that were just laid in a block of their own: the other rows stay -/
theorem wpList_append_mem {P : Program} {ops : Array Oper} {rest : List Oper} {o : Oper} {a : Act} {X : World} {T : TypeId} {fr : Nat × Nat} {Q : Exit → Act → World → Prop} (hgd : o.guard = none) (s x : Operand) (t e : TypeId) (size bytes : Nat)
    (ho : o.op = .call { callee := .builtin .append, args := #[s, x], argTypes := #[t, t] }) (F : AppF P t e size bytes) (hsz : 0 < size)
    (W : World) (L : List Ent) (i : Nat) (v : Value) (n : Nat) (xs : List Value) (hi : L[i]? = some ⟨v, e, size, n, xs⟩) (m : Nat) (news : List Value) (hs : a.eval s = v) (hx : a.eval x = .slice (some ⟨X.heap.size, 0, none⟩) m m) (hl : news.length = m * size) (h1 : ∀ u ∈ news, u.oneCell' = true)
    (hM : Mem W X L) (h63 : n + m ≤ 1000000000000) (hby : bytes ≤ 100)
    (h : ∀ v' g, Mem W (ext W g) (L.set i ⟨v', e, size, n + m, xs ++ news⟩) → wpList P ops Q rest (a.put o.dst v') (ext W g)) : wpList P ops Q (o :: rest) a (X.alloc (.cells news.toArray T fr)) := by
  obtain ⟨hu, ii, z, hii, hz0, hz1, hz2, hz⟩ := F
  have hM2 := mem_bel hM ((Bel.refl X).alloc (.cells news.toArray T fr))
  have hown := hM2.own i _ hi
  refine wpList_append_own_at _ hgd s x t ho W.heap.size e ii z size bytes hu hii hz0 hz1 hz2 hz hsz v n xs hs hown ⟨X.heap.size, 0, none⟩ m m news hx hl (fun j u hu => ?_) h1 (by unfold maxLen; omega)
    (Nat.le_trans (Nat.mul_le_mul h63 hby) (by decide)) hM2.bel.size fun v' w' hown' hg _ hat => ?_
  · rw [addr_add, Nat.zero_add, World.cell?_alloc_mark]; simpa using hu
  · have hb : Bel W w' := Below.grown hM2.bel hg hM2.bel.size (fun k hk => (hown.lt k hk).1)
    have hm := mem_put hM2 i hi ⟨v', e, size, n + m, xs ++ news⟩ hown' hg hb (hat.imp id fun e b hb => by rw [e] at hb; cases hb; exact Nat.le_refl _)
    have e := ext_of hb
    have := h v' w'
    rw [e] at this
    exact this hm
/-- the call's first argument is row i's value: a cheap guard ahead of a dear unification -/
theorem args_guard {P : Program} {f : FuncId} {W w0 w : World} {L : List Ent} {k : Value} {Q : Ending → World → Prop} (_ : Mem W w0 L) (i : Nat) {r : Ent} (_ : L[i]? = some r) {v : Value} (_ : r.v = v) (c : Calls P f #[v, k] w Q) : Calls P f #[v, k] w Q := c
theorem args_guard1 {P : Program} {f : FuncId} {w : World} {Q : Ending → World → Prop} {u v : Value} (_ : u = v) (c : Calls P f #[v] w Q) : Calls P f #[v] w Q := c
theorem same_ret {P : Program} {f : FuncId} {args : Array Value} {w : World} {v : Value} (h : Calls P f args w (Same v w)) : Calls P f args w (Ret v w) :=
  h.mono fun _ _ ⟨he, hw⟩ => ⟨he, w, by rw [← hw]; exact (ext_of (Bel.refl w)).symm⟩
end Go.Proofs.Ytdneffnnpjgnbab
