/- The library's stable sort at windows: the order by begin, the insertion sort, merging; at this program. -/
import Derived.Test.YtdneffnnpjgnbabSym
import Derived.Test.YtdneffnnpjgnbabSortOwn
namespace Go.Proofs.Ytdneffnnpjgnbab
open Go.RowKit Go.Lib Go.Sort Go.Shelf

def cmpW (x y : Int × Int) : Int := if x.1 < y.1 then -1 else if y.1 < x.1 then 1 else 0
def ltW : Int × Int → Int × Int → Bool := ltOf cmpW
theorem ltW_eq (x y : Int × Int) : ltOf cmpW x y = decide (x.1 < y.1) := by
  unfold ltOf cmpW
  by_cases h1 : x.1 < y.1
  · simp [h1]
  · by_cases h2 : y.1 < x.1 <;> simp [h1, h2]
theorem swoW : SWO (ltOf cmpW) where
  irrefl x := by rw [ltW_eq]; simp
  trans x y z h1 h2 := by rw [ltW_eq] at *; simp at *; omega
  ntrans x y z h1 h2 := by rw [ltW_eq] at *; simp at *; omega

theorem isNaN_c (x : Int) (w : World) : Calls Try.prog 44 #[.int .i64 x] w (Same (.bool false) w) := by
  go_enter Try.func44, Try.ntmps44
  go_wp2
  go_ret
  exact Same.mk (by simp)
set_option maxHeartbeats 1000000 in
theorem Compare_c (x y : Int) (w : World) : Calls Try.prog 38 #[.int .i64 x, .int .i64 y] w (Same (.int .i64 (if x < y then -1 else if y < x then 1 else 0)) w) := by
  refine hide_same fun v H => ?_
  go_enter Try.func38, Try.ntmps38
  rcases Int.lt_trichotomy x y with h | h | h
  · have h2 : ¬ y < x := by omega
    go_wp2_with (go_at_call 44; refine (isNaN_c _ _).mono ?_; rintro ee ww ⟨rfl, rfl⟩)
    go_ret
    refine Same.mk ?_
    rw [← H.out]; simp [h]
  · subst h
    go_wp2_with (go_at_call 44; refine (isNaN_c _ _).mono ?_; rintro ee ww ⟨rfl, rfl⟩)
    go_ret
    refine Same.mk ?_
    rw [← H.out]; simp
  · have h2 : ¬ x < y := by omega
    go_wp2_with (go_at_call 44; refine (isNaN_c _ _).mono ?_; rintro ee ww ⟨rfl, rfl⟩)
    go_ret
    refine Same.mk ?_
    rw [← H.out]; simp [h, h2]
set_option maxHeartbeats 1000000 in
theorem closureW (x y : Int × Int) (W : World) : Calls Try.prog 37 #[.agg (encW x).toArray, .agg (encW y).toArray] W fun e w' => e = .returned (.int .i64 (cmpW x y)) ∧ ∃ q os', w' = grow (W.drewN q) os' := by
  have hcon := fun W' => Compare_c x.1 y.1 W'
  change ∀ W', Calls Try.prog 38 _ _ (Same (.int .i64 (cmpW x y)) W') at hcon
  generalize cmpW x y = r at hcon ⊢
  show Calls Try.prog 37 #[.agg #[.int .i64 x.1, .int .i64 x.2], .agg #[.int .i64 y.1, .int .i64 y.2]] W _
  go_enter Try.func37, Try.ntmps37
  go_wp2_with (go_at_call 38; refine (hcon _).mono ?_; rintro e w' ⟨rfl, rfl⟩)
  go_ret
  exact ⟨rfl, 0, _, by rw [alloc_eq_grow, alloc_eq_grow, grow_grow]; rfl⟩
theorem cmpLaysW (blk off size : Nat) (w : World) : CmpLays Try.prog 37 #[] encW 2 cmpW blk off size w := fun _ _ _ _ x y => closureW x y _
theorem egW : ∀ args w, (callFunc 37 args).run Try.prog w = .ok (.enter 37 args) w := enters_of Try.func37 (by kernel_rfl) rfl

def renW : Ren := { f := fun _ => 47, t := fun n => if n = 22 then 24 else if n = 24 then 35 else if n = 25 then 53 else if n = 3 then 3 else if n = 4 then 4 else n, g := id }
theorem laysIns : SlLaysF0.n20 Try.prog renW where
  mixed := by kernel_rfl
  f20 := ⟨Try.f47.name, by kernel_rfl, Try.func47.trans (by kernel_rfl)⟩
  t0 := tyW.t0
  a0 := tyW.a0
  z0 := tyW.z0
  v0 := tyW.v0
  t3 := tyW.t3
  a3 := tyW.a3
  z3 := tyW.z3
  v3 := tyW.v3
  t4 := tyW.t4
  a4 := tyW.a4
  z4 := tyW.z4
  v4 := tyW.v4
  t22 := tyW.tS
  a22 := tyW.aS
  z22 := tyW.zS
  v22 := tyW.vS
  t25 := tyW.tF
  a25 := tyW.aF
  z25 := tyW.zF
  v25 := tyW.vF

section
variable (blk off cap : Nat) (d0 : Array (Int × Int)) (w0 : World)
/-- the insertion sort of a part, in a world of the sort's -/
theorem ins_c (R : RowK encW 2 w0 blk off d0) (hsz : d0.size < 4611686018427387904) (a b : Nat) (d : Array (Int × Int)) (w : World) (hs : d0.size = d.size) (S : SWK encW 2 w0 blk off d w) (hab : a ≤ b) (hb : b ≤ d.size) :
    Calls Try.prog 47 #[.slice (some ⟨blk, off, none⟩) d.size cap, .int .i64 a, .int .i64 b, .func (.func 37) #[] #[]] w fun e w' => e = .returned (.tuple #[]) ∧ ∃ d', Merged (ltOf cmpW) a b d d' ∧ SWK encW 2 w0 blk off d' w' := by
  have h := AnyQ.insertionSortCmpFunc laysIns 2 tyW.aE tyW.zE encW encW_len encW_one cmpW 37 #[] blk off cap a b d w egW (cmpLaysW blk off d.size w) (S.holds R.hblk R.hH (by omega)) (S.lt R.hblk) hab hb (by omega)
  change Calls Try.prog 47 _ _ _ at h
  refine h.mono ?_
  rintro e w' ⟨rfl, n, os, rfl⟩
  obtain ⟨h1, h2⟩ := insertionSort_holds (lt := ltOf cmpW) swoW d a b hab hb
  exact ⟨rfl, _, ⟨h1, h2⟩, S.on R.hblk n _ os h1.1⟩
/-- merging, in a world of the sort's -/
theorem sym_c (R : RowK encW 2 w0 blk off d0) (hsz : d0.size < 4611686018427387904) (a m b : Nat) (d : Array (Int × Int)) (w : World) (hs : d0.size = d.size) (S : SWK encW 2 w0 blk off d w) (ham : a < m) (hmb : m < b) (hb : b ≤ d.size)
    (hA : SortedIn (ltOf cmpW) a m d) (hB : SortedIn (ltOf cmpW) m b d) :
    Calls Try.prog 48 #[.slice (some ⟨blk, off, none⟩) d.size cap, .int .i64 a, .int .i64 m, .int .i64 b, .func (.func 37) #[] #[]] w fun e w' => e = .returned (.tuple #[]) ∧ ∃ d', Merged (ltOf cmpW) a b d d' ∧ SWK encW 2 w0 blk off d' w' :=
  symMerge_g tyW Try.func48 Try.func49 Try.func50 encW cmpW swoW 37 #[] blk off cap d0 w0 egW (cmpLaysW blk off d0.size w0) R hsz (b - a) a m b d w (Nat.le_refl _) hs S ham hmb hb hA hB
end
end Go.Proofs.Ytdneffnnpjgnbab
