import Derived.WalkKit
import Derived.WalkSpells
import Derived.WalkLawsBesides
import Derived.Deep.QuietTactic
import Derived.BigQuiet
import Derived.Deep.RegionHeld3
import Derived.Lib.Hide
namespace Go.Proofs.Ytdneffnnpjgnbab
open Go.RowKit

/-- 'w' with more behind it: blocks made, draws drawn; what was there is as it was. -/
noncomputable def ext (w g : World) : World := open Classical in if Below w.heap.size w g then g else w

theorem ext_below (w g : World) : Below w.heap.size w (ext w g) := by
  unfold ext; split
  · assumption
  · exact Below.refl _ _

theorem ext_of {w g : World} (h : Below w.heap.size w g) : ext w g = g := by
  unfold ext; rw [if_pos h]

theorem ext_ex {w g : World} (h : Below w.heap.size w g) : ∃ x, g = ext w x := ⟨g, (ext_of h).symm⟩

theorem ext_ext (w g k : World) : ext (ext w g) k = ext w (ext (ext w g) k) :=
  (ext_of ((ext_below w g).trans ((ext_below (ext w g) k).mono (ext_below w g).size))).symm

theorem ext_size (w g : World) : w.heap.size ≤ (ext w g).heap.size := (ext_below w g).size
theorem ext_lt (w g : World) {b : Nat} (h : b < w.heap.size) : b < (ext w g).heap.size := Nat.lt_of_lt_of_le h (ext_size w g)
theorem ext_cell (w g : World) {b o : Nat} (h : b < w.heap.size) : (ext w g).cell? ⟨b, o, none⟩ = w.cell? ⟨b, o, none⟩ := (ext_below w g).cell (p := ⟨b, o, none⟩) h
theorem ext_frozen (w g : World) {b o : Nat} (h : b < w.heap.size) : (ext w g).frozen? ⟨b, o, none⟩ = w.frozen? ⟨b, o, none⟩ := (ext_below w g).frozen (p := ⟨b, o, none⟩) h

/-- What is not known of 'ext', under a name that no rule opens. -/
noncomputable def farCell (w g : World) (b o : Nat) : Option Value := (ext w g).cell? ⟨b, o, none⟩
noncomputable def farMark (w g : World) (b o : Nat) : Bool := (ext w g).frozen? ⟨b, o, none⟩
def farLt (w g : World) (b : Nat) : Prop := b < (ext w g).heap.size
def farLt' (w g : World) (b k : Nat) : Prop := b < (ext w g).heap.size + k
def farLe (w g : World) (b : Nat) : Prop := b ≤ (ext w g).heap.size
theorem ext_cell_if (w g : World) (b o : Nat) : (ext w g).cell? ⟨b, o, none⟩ = if b < w.heap.size then w.cell? ⟨b, o, none⟩ else farCell w g b o := by
  split
  · exact ext_cell w g ‹_›
  · rfl
theorem ext_frozen_if (w g : World) (b o : Nat) : (ext w g).frozen? ⟨b, o, none⟩ = if b < w.heap.size then w.frozen? ⟨b, o, none⟩ else farMark w g b o := by
  split
  · exact ext_frozen w g ‹_›
  · rfl
theorem lt_ext (w g : World) (b : Nat) : (b < (ext w g).heap.size) = (b < w.heap.size ∨ farLt w g b) :=
  propext ⟨.inr, fun h => h.elim (fun h => Nat.lt_of_lt_of_le h (ext_size w g)) id⟩
theorem lt_ext' (w g : World) (b k : Nat) : (b < (ext w g).heap.size + k) = (b < w.heap.size + k ∨ farLt' w g b k) :=
  propext ⟨.inr, fun h => h.elim (fun h => by have := ext_size w g; omega) id⟩
theorem le_ext (w g : World) (b : Nat) : (b ≤ (ext w g).heap.size) = (b ≤ w.heap.size ∨ farLe w g b) :=
  propext ⟨.inr, fun h => h.elim (fun h => Nat.le_trans h (ext_size w g)) id⟩
attribute [go_sem] ext_cell_if ext_frozen_if
attribute [go_sem low] lt_ext lt_ext' le_ext

/-- The call returns 'v'; what was there is as it was. -/
def Ret (v : Value) (w : World) (e : Ending) (w' : World) : Prop := e = .returned v ∧ ∃ g, w' = ext w g
theorem Ret.mk {v u : Value} {w w' : World} (e : u = v) (h : Below w.heap.size w w') : Ret v w (.returned u) w' := ⟨by rw [e], ext_ex h⟩
theorem hide_ret {P : Program} {f : FuncId} {args : Array Value} {w : World} {v : Value} (h : ∀ u, Hid (v = u) → Calls P f args w (Ret u w)) : Calls P f args w (Ret v w) := h v rfl

/-- The call returns 'v' and leaves the world alone. -/
def Same (v : Value) (w : World) (e : Ending) (w' : World) : Prop := e = .returned v ∧ w = w'
theorem Same.mk {v u : Value} {w : World} (e : u = v) : Same v w (.returned u) w := ⟨by rw [e], rfl⟩
theorem hide_same {P : Program} {f : FuncId} {args : Array Value} {w : World} {v : Value} (h : ∀ u, Hid (v = u) → Calls P f args w (Same u w)) : Calls P f args w (Same v w) := h v rfl

/-- A contract met in a region: the class is 'w and more'. -/
theorem Calls.in_same {P : Program} {f : FuncId} {args : Array Value} {w g : World} {v : Value} (h : Calls P f args (ext w g) (Same v (ext w g))) :
    Calls P f args (ext w g) fun e w'' => e = .returned v ∧ ∃ m, w'' = ext w m := h.mono fun _ _ ⟨he, hw⟩ => ⟨he, g, hw.symm⟩
theorem Calls.in_ret {P : Program} {f : FuncId} {args : Array Value} {w g : World} {v : Value} (h : Calls P f args (ext w g) (Ret v (ext w g))) :
    Calls P f args (ext w g) fun e w'' => e = .returned v ∧ ∃ m, w'' = ext w m := h.mono fun _ _ ⟨he, m, hw⟩ => ⟨he, _, hw.trans (ext_ext w g m)⟩

/-- A region that draws its order, each operation quiet in the class 'w and more'. -/
theorem region_ext {P : Program} {id : Nat} {Q : Exit → Act → World → Prop} {a : Act} {w : World} {l : List Oper} (hm : P.follows .mixedOrders = true) (hB : Region.lexB .any l.toArray = true)
    (h : wpQuiet P l.toArray (fun w' => ∃ g, w' = ext w g) (fun a' => ∀ w', (∃ g, w' = ext w g) → Q .normal a' w') l a) : (Code.region id l.toArray true).wp P Q a w :=
  wp_region_quiet (C := fun w' => ∃ g, w' = ext w g) hm hB (ext_ex ⟨rfl, rfl, rfl, Nat.le_refl _, fun _ _ => rfl⟩) (by simpa using h)

/-! Facts of sizes, for the walk's side conditions. -/
theorem lt_plus {b n k : Nat} (h : b < n) : (b < n + k) = True := eq_true (by omega)
theorem le_of_lt' {b n : Nat} (h : b < n) : (b ≤ n) = True := eq_true (by omega)
theorem le_plus {b n k : Nat} (h : b < n) : (b ≤ n + k) = True := eq_true (by omega)
theorem lt_plus2 {b n k j : Nat} (h : b < n) : (b < n + k + j) = True := eq_true (by omega)
theorem lt_plus3 {b n k j i : Nat} (h : b < n) : (b < n + k + j + i) = True := eq_true (by omega)
theorem lt_plus4 {b n k j i l : Nat} (h : b < n) : (b < n + k + j + i + l) = True := eq_true (by omega)
attribute [go_sem] lt_plus le_of_lt' le_plus lt_plus2 lt_plus3 lt_plus4

theorem cell_set_far (w : World) (p : Addr) (u : Value) (b o : Nat) (h : b < p.block) : (w.setCell p u).cell? ⟨b, o, none⟩ = w.cell? ⟨b, o, none⟩ := World.cell?_setCell_far w p _ u (by simp; omega)
attribute [go_sem] cell_set_far

/-! What a walk made of the world: 'w' and more. -/
def Bel (w x : World) : Prop := Below w.heap.size w x
theorem Bel.refl (w : World) : Bel w w := Below.refl _ _
theorem Bel.ext {w x : World} (h : Bel w x) (g : World) : Bel w (ext x g) := Below.trans h ((ext_below x g).mono h.size)
theorem Bel.alloc {w x : World} (h : Bel w x) (o : Obj) : Bel w (x.alloc o) := Below.alloc h h.size o
theorem Bel.drew {w x : World} (h : Bel w x) : Bel w x.drew := Below.drew h
theorem Bel.set {w x : World} (h : Bel w x) {p : Addr} (hp : w.heap.size ≤ p.block) (u : Value) : Bel w (x.setCell p u) := Below.setCell h hp u

/-- A slice of elements of two integer cells: its value is '.slice a n c', it reads as 'xs'. -/
structure Sl2 (w : World) (a : Option Addr) (n c : Nat) (xs : List (Int × Int)) : Prop where
  len : n = xs.length
  le : n ≤ c
  cap : c ≤ maxLen
  cells : 0 < n → ∃ b off, a = some ⟨b, off, none⟩ ∧ b < w.heap.size ∧
    ∀ i x y, xs[i]? = some (x, y) → w.cell? ⟨b, off + i * 2, none⟩ = some (.int .i64 x) ∧ w.cell? ⟨b, off + i * 2 + 1, none⟩ = some (.int .i64 y)

theorem Sl2.open {w : World} {a : Option Addr} {n c : Nat} {xs : List (Int × Int)} (h : Sl2 w a n c xs) {k : Nat} (hk : k < n) :
    ∃ b off, a = some ⟨b, off, none⟩ ∧ b < w.heap.size ∧ ∃ x y, Hid (xs.drop k = (x, y) :: xs.drop (k + 1)) ∧ w.cell? ⟨b, off + k * 2, none⟩ = some (.int .i64 x) ∧ w.cell? ⟨b, off + k * 2 + 1, none⟩ = some (.int .i64 y) := by
  obtain ⟨b, off, ha, hb, hc⟩ := h.cells (by omega)
  have hk' : k < xs.length := by have := h.len; omega
  have e : xs[k]? = some (xs[k].1, xs[k].2) := by simp [hk']
  exact ⟨b, off, ha, hb, xs[k].1, xs[k].2, List.drop_eq_getElem_cons hk', hc k _ _ e⟩

theorem Sl2.at {w : World} {b off n c : Nat} {xs : List (Int × Int)} (h : Sl2 w (some ⟨b, off, none⟩) n c xs) {k : Nat} (hk : k < n) :
    ∃ x y, Hid (xs[k]? = some (x, y)) ∧ w.cell? ⟨b, off + k * 2, none⟩ = some (.int .i64 x) ∧ w.cell? ⟨b, off + k * 2 + 1, none⟩ = some (.int .i64 y) := by
  obtain ⟨b', off', ha, hb, hc⟩ := h.cells (by omega)
  cases ha
  have hk' : k < xs.length := by have := h.len; omega
  have e : xs[k]? = some (xs[k].1, xs[k].2) := by simp [hk']
  exact ⟨xs[k].1, xs[k].2, e, hc k _ _ e⟩

attribute [irreducible] ext
end Go.Proofs.Ytdneffnnpjgnbab
