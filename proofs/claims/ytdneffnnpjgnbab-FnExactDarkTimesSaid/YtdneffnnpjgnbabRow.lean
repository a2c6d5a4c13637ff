/- Slices whose elements have a fixed number of cells: how they are read, made, appended to; no program in sight. -/
import Derived.Test.YtdneffnnpjgnbabLib
import Derived.Laws.AppendOwn
namespace Go.Proofs.Ytdneffnnpjgnbab
open Go.RowKit

/-- How an element lies in memory. -/
structure Cel (α : Type) where
  size : Nat
  cells : α → List Value
  len : ∀ x, (cells x).length = size
  pos : 0 < size
  one : ∀ x, ∀ u ∈ cells x, u.oneCell' = true

def celI : Cel Int := ⟨1, fun x => [.int .i64 x], fun _ => rfl, by decide, fun _ u h => by simp at h; subst h; rfl⟩
def cel2 : Cel (Int × Int) := ⟨2, fun x => [.int .i64 x.1, .int .i64 x.2], fun _ => rfl, by decide, fun _ u h => by simp at h; rcases h with rfl | rfl <;> rfl⟩
def cel3 : Cel (Int × Int × Int) := ⟨3, fun x => [.int .i64 x.1, .int .i64 x.2.1, .int .i64 x.2.2], fun _ => rfl, by decide, fun _ u h => by simp at h; rcases h with rfl | rfl | rfl <;> rfl⟩

theorem bel_size {w x : World} (h : Bel w x) : w.heap.size ≤ x.heap.size := h.size

variable {α : Type}

def Cel.row (C : Cel α) (xs : List α) : List Value := xs.flatMap C.cells
theorem Cel.row_len (C : Cel α) (xs : List α) : (C.row xs).length = xs.length * C.size := by
  induction xs with
  | nil => simp [Cel.row]
  | cons x r ih => simp only [Cel.row, List.flatMap_cons, List.length_append, C.len, List.length_cons] at ih ⊢; rw [ih, Nat.succ_mul]; omega
theorem Cel.row_append (C : Cel α) (xs ys : List α) : C.row (xs ++ ys) = C.row xs ++ C.row ys := by simp [Cel.row]
theorem Cel.row_one (C : Cel α) (x : α) : C.row [x] = C.cells x := by simp [Cel.row]
theorem Cel.row_get (C : Cel α) : ∀ (xs : List α) (i : Nat) (x : α) (j : Nat) (u : Value), xs[i]? = some x → (C.cells x)[j]? = some u → (C.row xs)[i * C.size + j]? = some u
  | [], _, _, _, _, h, _ => by simp at h
  | y :: r, 0, x, j, u, h, hj => by
    simp at h; subst h
    have : j < (C.cells y).length := (List.getElem?_eq_some_iff.1 hj).1
    simp only [Cel.row, List.flatMap_cons, Nat.zero_mul, Nat.zero_add]
    rw [List.getElem?_append_left this]; exact hj
  | y :: r, i + 1, x, j, u, h, hj => by
    have ih := Cel.row_get C r i x j u (by simpa using h) hj
    simp only [Cel.row, List.flatMap_cons] at ih ⊢
    rw [List.getElem?_append_right (by rw [C.len, Nat.succ_mul]; omega), C.len, show (i + 1) * C.size + j - C.size = i * C.size + j by rw [Nat.succ_mul]; omega]
    exact ih

/-- The value 'v' is a slice that reads as 'xs' in 'w'. -/
def Rd (C : Cel α) (w : World) (v : Value) (xs : List α) : Prop :=
  ∃ a c, v = .slice a xs.length c ∧ xs.length ≤ c ∧ c ≤ maxLen ∧ (0 < xs.length → ∃ b off, a = some ⟨b, off, none⟩ ∧ b < w.heap.size ∧
    ∀ i x, xs[i]? = some x → ∀ j u, (C.cells x)[j]? = some u → w.cell? ⟨b, off + i * C.size + j, none⟩ = some u)

theorem Rd.bel {C : Cel α} {w x : World} {v : Value} {xs : List α} (h : Rd C w v xs) (hb : Bel w x) : Rd C x v xs := by
  obtain ⟨a, c, rfl, h1, h2, h3⟩ := h
  refine ⟨a, c, rfl, h1, h2, fun h0 => ?_⟩
  obtain ⟨b, off, rfl, hlt, hc⟩ := h3 h0
  exact ⟨b, off, rfl, Nat.lt_of_lt_of_le hlt hb.size, fun i x hx j u hu => by rw [Below.cell hb (p := ⟨b, _, none⟩) hlt]; exact hc i x hx j u hu⟩

theorem rd_nil (C : Cel α) (w : World) : Rd C w (.slice none 0 0) [] := ⟨none, 0, rfl, Nat.le_refl _, by unfold maxLen; omega, fun h => by simp at h⟩

theorem addr_add (b o j : Nat) : (⟨b, o, none⟩ : Addr).add j = ⟨b, o + j, none⟩ := by unfold Addr.add; split <;> simp_all

/-- What the call itself has made is read so. -/
theorem rd_of_row {C : Cel α} {w : World} {B : Nat} {e : TypeId} {v : Value} {xs : List α} (h : w.ownsRow B e C.size v xs.length (C.row xs)) : Rd C w v xs := by
  have hc := fun g hg => h.cells (g := g) hg
  have hl := h.lt
  rcases h.2 with ⟨rfl, hn⟩ | ⟨g, cap, cur, rfl, _, hg, h1, h2, _⟩
  · rw [show xs = [] from List.eq_nil_of_length_eq_zero hn]; exact rd_nil C w
  · refine ⟨_, _, rfl, h1, h2, fun _ => ⟨g, 0, rfl, (hl g rfl).2, fun i x hx j u hu => ?_⟩⟩
    have := hc g rfl _ _ (C.row_get xs i x j u hx hu)
    rw [addr_add] at this
    rw [Nat.add_assoc]; exact this

theorem Rd.len {C : Cel α} {w : World} {v : Value} {xs : List α} (h : Rd C w v xs) : ∃ a c, v = .slice a xs.length c := by obtain ⟨a, c, h, _⟩ := h; exact ⟨a, c, h⟩

/-! The shape in a walk: '.slice a n c', n = xs.length. -/
structure Sl (C : Cel α) (w : World) (a : Option Addr) (n c : Nat) (xs : List α) : Prop where
  len : n = xs.length
  le : n ≤ c
  cap : c ≤ maxLen
  at_ : 0 < n → ∃ b off, a = some ⟨b, off, none⟩ ∧ b < w.heap.size ∧ ∀ i x, xs[i]? = some x → ∀ j u, (C.cells x)[j]? = some u → w.cell? ⟨b, off + i * C.size + j, none⟩ = some u

theorem Rd.sl {C : Cel α} {w : World} {v : Value} {xs : List α} (h : Rd C w v xs) : ∃ a n c, v = .slice a n c ∧ Sl C w a n c xs := by
  obtain ⟨a, c, rfl, h1, h2, h3⟩ := h
  exact ⟨a, _, c, rfl, ⟨rfl, h1, h2, h3⟩⟩
theorem Sl.rd {C : Cel α} {w : World} {a : Option Addr} {n c : Nat} {xs : List α} (h : Sl C w a n c xs) : Rd C w (.slice a n c) xs := by
  obtain ⟨rfl, h1, h2, h3⟩ := h
  exact ⟨a, c, rfl, h1, h2, h3⟩
theorem Sl.bel {C : Cel α} {w x : World} {a : Option Addr} {n c : Nat} {xs : List α} (h : Sl C w a n c xs) (hb : Bel w x) : Sl C x a n c xs := by
  obtain ⟨h0, h1, h2, h3⟩ := h
  refine ⟨h0, h1, h2, fun hp => ?_⟩
  obtain ⟨b, off, rfl, hlt, hc⟩ := h3 hp
  exact ⟨b, off, rfl, Nat.lt_of_lt_of_le hlt hb.size, fun i x hx j u hu => by rw [Below.cell hb (p := ⟨b, _, none⟩) hlt]; exact hc i x hx j u hu⟩

/-- Its address, where it has an element. -/
theorem Sl.base {C : Cel α} {w : World} {a : Option Addr} {n c : Nat} {xs : List α} (h : Sl C w a n c xs) {k : Nat} (hk : k < n) : ∃ b off, a = some ⟨b, off, none⟩ ∧ b < w.heap.size := by
  obtain ⟨b, off, h1, h2, _⟩ := h.at_ (by omega)
  exact ⟨b, off, h1, h2⟩
theorem Sl.get {C : Cel α} {w : World} {a : Option Addr} {n c : Nat} {xs : List α} (h : Sl C w a n c xs) {k : Nat} (hk : k < n) : ∃ x, xs[k]? = some x := by
  have := h.len
  exact ⟨xs[k], by simp⟩
theorem drop_cons_of {xs : List α} {k : Nat} {x : α} (h : xs[k]? = some x) : xs.drop k = x :: xs.drop (k + 1) := by
  obtain ⟨h1, h2⟩ := List.getElem?_eq_some_iff.1 h
  rw [← h2]; exact List.drop_eq_getElem_cons h1
theorem take_snoc_of {xs : List α} {k : Nat} {x : α} (h : xs[k]? = some x) : xs.take (k + 1) = xs.take k ++ [x] := by
  obtain ⟨h1, h2⟩ := List.getElem?_eq_some_iff.1 h
  rw [← h2]; exact List.take_succ_eq_append_getElem h1

theorem Sl.at1 {w : World} {b off n c : Nat} {xs : List Int} (h : Sl celI w (some ⟨b, off, none⟩) n c xs) {k : Nat} (hk : k < n) :
    ∃ x, Hid (xs[k]? = some x) ∧ w.cell? ⟨b, off + k, none⟩ = some (.int .i64 x) := by
  obtain ⟨x, hx⟩ := h.get hk
  obtain ⟨b', off', ha, hb, hc⟩ := h.at_ (by omega)
  cases ha
  have := hc k x hx 0 _ rfl
  exact ⟨x, hx, by simpa [celI] using this⟩
theorem Sl.at2 {w : World} {b off n c : Nat} {xs : List (Int × Int)} (h : Sl cel2 w (some ⟨b, off, none⟩) n c xs) {k : Nat} (hk : k < n) :
    ∃ x y, Hid (xs[k]? = some (x, y)) ∧ w.cell? ⟨b, off + k * 2, none⟩ = some (.int .i64 x) ∧ w.cell? ⟨b, off + k * 2 + 1, none⟩ = some (.int .i64 y) := by
  obtain ⟨⟨x, y⟩, hx⟩ := h.get hk
  obtain ⟨b', off', ha, hb, hc⟩ := h.at_ (by omega)
  cases ha
  exact ⟨x, y, hx, by simpa [cel2] using hc k _ hx 0 _ rfl, by simpa [cel2] using hc k _ hx 1 _ rfl⟩
theorem Sl.at3 {w : World} {b off n c : Nat} {xs : List (Int × Int × Int)} (h : Sl cel3 w (some ⟨b, off, none⟩) n c xs) {k : Nat} (hk : k < n) :
    ∃ x y z, Hid (xs[k]? = some (x, y, z)) ∧ w.cell? ⟨b, off + k * 3, none⟩ = some (.int .i64 x) ∧ w.cell? ⟨b, off + k * 3 + 1, none⟩ = some (.int .i64 y) ∧ w.cell? ⟨b, off + k * 3 + 2, none⟩ = some (.int .i64 z) := by
  obtain ⟨⟨x, y, z⟩, hx⟩ := h.get hk
  obtain ⟨b', off', ha, hb, hc⟩ := h.at_ (by omega)
  cases ha
  exact ⟨x, y, z, hx, by simpa [cel3] using hc k _ hx 0 _ rfl, by simpa [cel3] using hc k _ hx 1 _ rfl, by simpa [cel3] using hc k _ hx 2 _ rfl⟩

/-! Rows that the call owns. -/
theorem own_bel {w x : World} {B : Nat} {e : TypeId} {size : Nat} {v : Value} {n : Nat} {xs : List Value} (h : w.ownsRow B e size v n xs) (hb : Bel w x) : x.ownsRow B e size v n xs := by
  refine ⟨h.1, ?_⟩
  rcases h.2 with hn | ⟨g, cap, cur, rfl, hB, hg, rest⟩
  · exact .inl hn
  · refine .inr ⟨g, cap, cur, rfl, hB, ?_, rest⟩
    rw [hb.block g (Array.getElem?_eq_some_iff.1 hg).1]; exact hg
theorem own_mono {w : World} {B B' : Nat} {e : TypeId} {size : Nat} {v : Value} {n : Nat} {xs : List Value} (h : w.ownsRow B e size v n xs) (hB : B' ≤ B) : w.ownsRow B' e size v n xs := by
  refine ⟨h.1, ?_⟩
  rcases h.2 with hn | ⟨g, cap, cur, rfl, hb, rest⟩
  · exact .inl hn
  · exact .inr ⟨g, cap, cur, rfl, by omega, rest⟩
/-- a literal slice, just made -/
theorem own_lit (w : World) (B : Nat) (e : TypeId) (size : Nat) (cs : List Value) (n : Nat) (hn : cs.length = n * size) (hB : B ≤ w.heap.size) (hm : n ≤ maxLen) :
    (w.alloc (.cells cs.toArray e)).ownsRow B e size (.slice (some ⟨w.heap.size, 0, none⟩) n n) n cs :=
  ⟨hn, .inr ⟨w.heap.size, n, cs.toArray, rfl, hB, heap_alloc_new w _, Nat.le_refl _, hm, by simpa using hn, by simp [← hn]⟩⟩

/-- What an append asks of the program's tables. -/
structure AppF (P : Program) (t e : TypeId) (size bytes : Nat) : Prop where
  und : P.underlying t = some (.slice e)
  info : ∃ i z, P.info? e = some i ∧ i.zero = some z ∧ i.size = size ∧ i.bytes = bytes ∧ z.cells.size = size
theorem appF_of {P : Program} {t e : TypeId} {size bytes : Nat} {z : Value} (hu : P.underlying t = some (.slice e)) (h : (P.info? e).map (fun i => (i.zero, i.size, i.bytes)) = some (some z, size, bytes)) (hz : z.cells.size = size) : AppF P t e size bytes := by
  obtain ⟨i, hi, hz0, hz1, hz2⟩ := info_parts h
  exact ⟨hu, i, z, hi, hz0, hz1, hz2, hz⟩

/-- 'append(out, x..)', out made by the call itself, which began (or opened the loop) at W. -/
theorem wpList_append_ext {P : Program} {ops : Array Oper} {rest : List Oper} {o : Oper} {a : Act} {w : World} {Q : Exit → Act → World → Prop} (hgd : o.guard = none) (s x : Operand) (t e : TypeId) (size bytes : Nat)
    (ho : o.op = .call { callee := .builtin .append, args := #[s, x], argTypes := #[t, t] }) (F : AppF P t e size bytes) (hsz : 0 < size)
    (W : World) (v : Value) (n : Nat) (xs : List Value) (hs : a.eval s = v) (hown : w.ownsRow W.heap.size e size v n xs)
    (ad : Addr) (m c : Nat) (news : List Value) (hx : a.eval x = .slice (some ad) m c) (hl : news.length = m * size) (hnews : ∀ j u, news[j]? = some u → w.cell? (ad.add j) = some u) (h1 : ∀ u ∈ news, u.oneCell' = true)
    (hbel : Bel W w) (h63 : n + m ≤ 1000000000000) (hby : bytes ≤ 100)
    (h : ∀ v' g, (ext W g).ownsRow W.heap.size e size v' (n + m) (xs ++ news) → w.grownBy (ext W g) v.ownBlock → wpList P ops Q rest (a.put o.dst v') (ext W g)) : wpList P ops Q (o :: rest) a w := by
  obtain ⟨hu, i, z, hi, hz0, hz1, hz2, hz⟩ := F
  refine wpList_append_own w hgd s x t ho W.heap.size e i z size bytes hu hi hz0 hz1 hz2 hz hsz v n xs hs hown ad m c news hx hl hnews h1 (by unfold maxLen; omega)
    (Nat.le_trans (Nat.mul_le_mul h63 hby) (by decide)) hbel.size fun v' w' hown' hg _ => ?_
  have hb : Bel W w' := Below.grown hbel hg hbel.size (fun k hk => (hown.lt k hk).1)
  have e := ext_of hb
  have := h v' w'
  rw [e] at this
  exact this hown' hg

/-- What a call hands back: a new slice of its own, inside 'mk'. -/
def RetRow (e : TypeId) (size : Nat) (mk : Value → Value) (n : Nat) (cells : List Value) (w : World) (en : Ending) (w' : World) : Prop :=
  ∃ v g, en = .returned (mk v) ∧ w' = ext w g ∧ (ext w g).ownsRow w.heap.size e size v n cells
theorem RetRow.mk' {e : TypeId} {size : Nat} {mk : Value → Value} {n : Nat} {cells : List Value} {w w' : World} {u v : Value} (hu : u = mk v) (hb : Bel w w') (ho : w'.ownsRow w.heap.size e size v n cells) :
    RetRow e size mk n cells w (.returned u) w' := ⟨v, w', by rw [hu], (ext_of hb).symm, by rw [ext_of hb]; exact ho⟩
theorem hide_row {P : Program} {f : FuncId} {args : Array Value} {w : World} {e : TypeId} {size : Nat} {mk : Value → Value} {n : Nat} {cells : List Value}
    (h : ∀ N C, Hid (n = N) → Hid (cells = C) → Calls P f args w (RetRow e size mk N C w)) : Calls P f args w (RetRow e size mk n cells w) := h n cells rfl rfl

/-! Rows that are written. -/
theorem grown_refl (w : World) (r : Option Nat) : w.grownBy w r := ⟨rfl, rfl, rfl, Nat.le_refl _, fun _ _ _ => rfl⟩
theorem grown_trans {a b c : World} {r : Option Nat} (h : a.grownBy b r) (k : b.grownBy c r) : a.grownBy c r :=
  ⟨k.os.trans h.os, k.tape.trans h.tape, k.output.trans h.output, Nat.le_trans h.size k.size, fun i hi hr => (k.block i (Nat.lt_of_lt_of_le hi h.size) hr).trans (h.block i hi hr)⟩
theorem grown_bel {a b : World} (r : Option Nat) (h : Bel a b) : a.grownBy b r := ⟨h.os, h.tape, h.output, h.size, fun i hi _ => h.block i hi⟩

/-- An owned row, in a walk's facts. -/
theorem own_far {W g : World} {e : TypeId} {size : Nat} {v : Value} {n : Nat} {cs : List Value} (h : (ext W g).ownsRow W.heap.size e size v n cs) (h0 : 0 < n) :
    ∃ b c, v = .slice (some ⟨b, 0, none⟩) n c ∧ W.heap.size ≤ b ∧ b < (ext W g).heap.size ∧ n ≤ c ∧ c ≤ maxLen ∧ (∀ j u, cs[j]? = some u → farCell W g b j = some u) ∧ (∀ j, farMark W g b j = false) := by
  have hl := h.lt
  have hc := fun g hg => h.cells (g := g) hg
  rcases h.2 with ⟨rfl, rfl⟩ | ⟨b, c, cur, rfl, hb, hg, h1, h2, _⟩
  · omega
  · refine ⟨b, c, rfl, hb, (hl b rfl).2, h1, h2, fun j u hu => ?_, fun j => frozen_of_row _ b j cur e hg⟩
    have := hc b rfl j u hu
    rw [addr_add, Nat.zero_add] at this
    exact this
theorem own_len {w : World} {B : Nat} {e : TypeId} {size : Nat} {v : Value} {n : Nat} {cs : List Value} (h : w.ownsRow B e size v n cs) : ∃ a c, v = .slice a n c ∧ n ≤ c ∧ c ≤ maxLen := by
  rcases h.2 with ⟨rfl, rfl⟩ | ⟨b, c, cur, rfl, hb, hg, h1, h2, _⟩
  · exact ⟨none, 0, rfl, Nat.le_refl _, by unfold maxLen; omega⟩
  · exact ⟨_, c, rfl, h1, h2⟩
theorem own_stored {w : World} {B : Nat} {e : TypeId} {size b n c : Nat} {cs : List Value} (h : w.ownsRow B e size (.slice (some ⟨b, 0, none⟩) n c) n cs) (j : Nat) (u : Value) :
    (w.setCell ⟨b, j, none⟩ u).ownsRow B e size (.slice (some ⟨b, 0, none⟩) n c) n (cs.set j u) := (h.stored j u).1
theorem set_grown (w : World) (b j : Nat) (u : Value) : w.grownBy (w.setCell ⟨b, j, none⟩ u) (some b) :=
  ⟨rfl, rfl, rfl, by simp [World.setCell], fun k _ hr => Below.heap_setCell _ _ _ _ (fun e => hr (by rw [e]))⟩

def markCells (k : Int) (m : Nat) : List Value := (List.range m).map fun (i : Nat) => Value.int .i64 (k + (i : Int))
theorem markCells_len (k : Int) (m : Nat) : (markCells k m).length = m := by simp [markCells]
theorem set_mark (k : Int) (cs : List Value) (j : Nat) (h : j < cs.length) : (markCells k j ++ cs.drop j).set j (.int .i64 (k + (j : Int))) = markCells k (j + 1) ++ cs.drop (j + 1) := by
  rw [List.set_append_right _ _ (by rw [markCells_len]; exact Nat.le_refl _), markCells_len, Nat.sub_self, List.drop_eq_getElem_cons h, List.set_cons_zero]
  simp [markCells, List.range_succ]
theorem markCells_get (k : Int) {m j : Nat} (h : j < m) : (markCells k m)[j]? = some (.int .i64 (k + (j : Int))) := by simp [markCells, h]

theorem row_marks2 (k : Int) (n : Nat) : cel2.row ((List.range n).map fun (i : Nat) => (k + ((i * 2 : Nat) : Int), k + ((i * 2 + 1 : Nat) : Int))) = markCells k (n * 2) := by
  induction n with
  | zero => simp [markCells, Cel.row]
  | succ n ih =>
    rw [List.range_succ, List.map_append, Cel.row_append, ih, Nat.add_mul]
    simp [markCells, List.range_succ, Cel.row, cel2]
theorem row_marks3 (k : Int) (n : Nat) : cel3.row ((List.range n).map fun (i : Nat) => (k + ((i * 3 : Nat) : Int), k + ((i * 3 + 1 : Nat) : Int), k + ((i * 3 + 2 : Nat) : Int))) = markCells k (n * 3) := by
  induction n with
  | zero => simp [markCells, Cel.row]
  | succ n ih =>
    rw [List.range_succ, List.map_append, Cel.row_append, ih, Nat.add_mul]
    simp [markCells, List.range_succ, Cel.row, cel3]

/-- What marking a row of the call's own does: its cells are counted through, all else stays. -/
def RetMark (v : Value) (e : TypeId) (size n : Nat) (k : Int) (W w : World) (en : Ending) (w' : World) : Prop :=
  en = .returned (.int .i64 (k + (n * size : Nat))) ∧ ∃ g, w' = ext W g ∧ (ext W g).ownsRow W.heap.size e size v n (markCells k (n * size)) ∧ w.grownBy (ext W g) v.ownBlock

/-! A contract, told of an elder world 'A'. -/
theorem ext_in {A w w' : World} (hb : Bel A w) {g : World} (h : w' = ext w g) : ∃ g', w' = ext A g' := by
  subst h; exact ext_ex (hb.ext g)
theorem Calls.ret_in {P : Program} {f : FuncId} {args : Array Value} {w A : World} {v : Value} (h : Calls P f args w (Ret v w)) (hb : Bel A w) :
    Calls P f args w fun e w' => e = .returned v ∧ ∃ g, w' = ext A g := h.mono fun _ _ ⟨he, _, hw⟩ => ⟨he, ext_in hb hw⟩
theorem Calls.row_in {P : Program} {f : FuncId} {args : Array Value} {w A : World} {e : TypeId} {size : Nat} {mk : Value → Value} {n : Nat} {cells : List Value} (h : Calls P f args w (RetRow e size mk n cells w)) (hb : Bel A w) :
    Calls P f args w fun en w' => ∃ v g, en = .returned (mk v) ∧ w' = ext A g ∧ (ext A g).ownsRow A.heap.size e size v n cells := h.mono fun _ _ ⟨v, g, he, hw, ho⟩ => by
  obtain ⟨g', hg⟩ := ext_in hb hw
  refine ⟨v, g', he, hg, ?_⟩
  rw [← hg, hw]; exact own_mono ho hb.size

theorem length_madeCells (z : Array Value) (n : Nat) : (madeCells z n).toList.length = n := by simp [madeCells]
/-- 'make([]T, n)': a row of the call's own. -/
theorem wpList_make_ext {P : Program} (w : World) {ops : Array Oper} {rest : List Oper} {o : Oper} {a : Act} {Q : Exit → Act → World → Prop}
    (hg : o.guard = none) (l c : Operand) (t e : TypeId) (size bytes : Nat) (hop : o.op = Op.makeSlice t l c) (F : AppF P t e size bytes) (n : Nat) (hl : a.eval l = .int .i64 (n : Int)) (hc : a.eval c = .int .i64 (n : Int))
    (hn : n ≤ 1000000000) (hby : bytes ≤ 100)
    (hK : ∀ g cs, cs.length = n * size → (ext w g).ownsRow w.heap.size e size (.slice (some ⟨w.heap.size, 0, none⟩) n n) n cs → wpList P ops Q rest (a.put o.dst (.slice (some ⟨w.heap.size, 0, none⟩) n n)) (ext w g)) :
    wpList P ops Q (o :: rest) a w := by
  obtain ⟨hu, i, z, hi, hz0, hz1, hz2, hz⟩ := F
  refine wpList_make_full w hg l c t hop w.heap.size e i z size hu hi hz0 hz1 .i64 .i64 (n : Int) (n : Int) n hl hc rfl rfl ?_ (by unfold maxLen; omega) (Nat.le_refl _) fun w' ho hgr => ?_
  · rw [hz2]; exact Nat.le_trans (Nat.mul_le_mul hby hn) (by decide)
  · have hb : Bel w w' := Below.grown (Below.refl _ _) hgr (Nat.le_refl _) (fun k hk => by cases hk)
    have := hK w' _ (length_madeCells _ _) (by rw [ext_of hb]; exact ho)
    rw [ext_of hb] at this
    exact this

theorem set_next (A cs : List Value) (m : Nat) (u : Value) (h : A.length = m) (hm : m < cs.length) : (A ++ cs.drop m).set m u = (A ++ [u]) ++ cs.drop (m + 1) := by
  rw [List.set_append_right _ _ (by omega), h, Nat.sub_self, List.drop_eq_getElem_cons hm, List.set_cons_zero]
  simp
theorem own_get {A cs : List Value} {m : Nat} (h : A.length = m) (hm : m < cs.length) : ∃ u, (A ++ cs.drop m)[m]? = some u :=
  ⟨cs[m], by rw [List.getElem?_append_right (by omega)]; simp [h, hm]⟩

/-- 'append(out, x)' of elements that were just laid in a block of their own. -/
theorem wpList_append_new {P : Program} {ops : Array Oper} {rest : List Oper} {o : Oper} {a : Act} {X : World} {T : TypeId} {fr : Nat × Nat} {Q : Exit → Act → World → Prop} (hgd : o.guard = none) (s x : Operand) (t e : TypeId) (size bytes : Nat)
    (ho : o.op = .call { callee := .builtin .append, args := #[s, x], argTypes := #[t, t] }) (F : AppF P t e size bytes) (hsz : 0 < size)
    (W : World) (v : Value) (n : Nat) (xs : List Value) (m : Nat) (news : List Value) (hs : a.eval s = v) (hx : a.eval x = .slice (some ⟨X.heap.size, 0, none⟩) m m) (hl : news.length = m * size) (h1 : ∀ u ∈ news, u.oneCell' = true)
    (hown : X.ownsRow W.heap.size e size v n xs) (hbel : Bel W X) (h63 : n + m ≤ 1000000000000) (hby : bytes ≤ 100)
    (h : ∀ v' g, (ext W g).ownsRow W.heap.size e size v' (n + m) (xs ++ news) → X.grownBy (ext W g) v.ownBlock → wpList P ops Q rest (a.put o.dst v') (ext W g)) : wpList P ops Q (o :: rest) a (X.alloc (.cells news.toArray T fr)) := by
  refine wpList_append_ext hgd s x t e size bytes ho F hsz W v n xs hs (own_bel hown ((Bel.refl X).alloc _)) ⟨X.heap.size, 0, none⟩ m m news hx hl (fun j u hu => ?_) h1 (hbel.alloc _) h63 hby fun v' g h2 h3 => ?_
  · rw [addr_add, Nat.zero_add, World.cell?_alloc_mark]; simpa using hu
  · exact h v' g h2 (grown_trans (grown_bel _ ((Bel.refl X).alloc _)) h3)
/-- the same at a step of a region that draws its order, in whatever world -/
theorem step_append_new {P : Program} {ops : Array Oper} {o : Oper} {a : Act} {Y : World} {K : Act → World → Prop} {Q : Exit → Act → World → Prop} {E : Prop} (hgd : o.guard = none) (s x : Operand) (t e : TypeId) (size bytes : Nat)
    (ho : o.op = .call { callee := .builtin .append, args := #[s, x], argTypes := #[t, t] }) (F : AppF P t e size bytes) (hsz : 0 < size)
    (W : World) (v : Value) (n : Nat) (xs : List Value) (m : Nat) (news : List Value) (hs : a.eval s = v) (b : Nat) (hx : a.eval x = .slice (some ⟨b, 0, none⟩) m m) (hl : news.length = m * size) (h1 : ∀ u ∈ news, u.oneCell' = true)
    (hnews : ∀ j u, news[j]? = some u → Y.cell? ⟨b, j, none⟩ = some u)
    (hown : Y.ownsRow W.heap.size e size v n xs) (hbel : Bel W Y) (h63 : n + m ≤ 1000000000000) (hby : bytes ≤ 100)
    (h : ∀ v' g, (ext W g).ownsRow W.heap.size e size v' (n + m) (xs ++ news) → Y.grownBy (ext W g) v.ownBlock → K (a.put o.dst v') (ext W g)) :
    if Region.wanted o (yielded ops a.tmps) = true then Oper.wp P o a Y K Q else E := by
  have hw : Region.wanted o (yielded ops a.tmps) = true := by simp [Region.wanted, hgd]
  rw [if_pos hw]
  obtain ⟨hu, i, z, hi, hz0, hz1, hz2, hz⟩ := F
  refine wp_append_own _ s x t ho W.heap.size e i z size bytes hu hi hz0 hz1 hz2 hz hsz v n xs hs hown ⟨b, 0, none⟩ m m news hx hl (fun j u hu => ?_) h1 (by unfold maxLen; omega)
    (Nat.le_trans (Nat.mul_le_mul h63 hby) (by decide)) hbel.size fun v' w' hown' hg _ => ?_
  · rw [addr_add, Nat.zero_add]; exact hnews j u hu
  · have hb : Bel W w' := Below.grown hbel hg hbel.size (fun k hk => (hown.lt k hk).1)
    have e := ext_of hb
    have := h v' w'
    rw [e] at this
    exact this hown' hg
theorem cel_one {α : Type} (C : Cel α) (x : α) : ∀ u ∈ C.cells x, u.oneCell' = true := C.one x
/-- a row of the call's own that is empty yet -/
theorem own_empty (w : World) (B : Nat) (e : TypeId) (size : Nat) (hB : B ≤ w.heap.size) : (w.alloc (.cells #[] e)).ownsRow B e size (.slice (some ⟨w.heap.size, 0, none⟩) 0 0) 0 [] :=
  own_lit w B e size [] 0 (by simp) hB (by unfold maxLen; omega)
end Go.Proofs.Ytdneffnnpjgnbab
