/- Windows sorted by their begin by the library: slices.SortStableFunc, slices.SortedStableFunc. -/
import Derived.Test.YtdneffnnpjgnbabStable
import Derived.Test.YtdneffnnpjgnbabIter
import Derived.Test.YtdneffnnpjgnbabCanon
namespace Go.Proofs.Ytdneffnnpjgnbab
open Go.RowKit Go.Lib Go.Sort Go.Shelf

theorem asc_of {n : Nat} {d : Array (Int × Int)} (h : SortedIn (ltOf cmpW) 0 n d) (hn : d.size = n) : ascW d.toList := by
  unfold ascW
  rw [List.pairwise_iff_getElem]
  intro i j hi hj hij
  have hi' : i < d.size := by simpa using hi
  have hj' : j < d.size := by simpa using hj
  have := h i j (Nat.zero_le _) hij (by omega)
  rw [getElem!_pos d j hj', getElem!_pos d i hi', ltW_eq] at this
  simp at this
  simpa using this
theorem perm_of {n : Nat} {zs : List (Int × Int)} {d : Array (Int × Int)} (h : PermIn 0 n zs.toArray d) (hn : zs.length = n) : d.toList.Perm zs := by
  obtain ⟨h1, -, h3⟩ := h
  have e1 : d.extract 0 n = d := by
    have : n = d.size := by rw [h1]; simp [hn]
    rw [this]; exact Array.extract_size
  have e2 : zs.toArray.extract 0 n = zs.toArray := by
    have : n = zs.toArray.size := by simp [hn]
    rw [this]; exact Array.extract_size
  rw [e1, e2] at h3
  exact h3

set_option maxHeartbeats 1000000 in
theorem ins_nil (f : Value) (w : World) : Calls Try.prog 47 #[.slice none 0 0, .int .i64 0, .int .i64 0, f] w (Same (.tuple #[]) w) := by
  go_enter Try.func47, Try.ntmps47
  go_wp2
  refine wp_loop_rounds 1 ?_
  rw [rounds_succ]
  go_wp2
  go_end0
  exact Same.mk rfl
set_option maxHeartbeats 1000000 in
theorem stable_nil (f : Value) (w : World) : Calls Try.prog 46 #[.slice none 0 0, .int .i64 0, f] w (Same (.tuple #[]) w) := by
  go_enter Try.func46, Try.ntmps46
  go_wp2
  refine wp_loop_rounds 1 ?_
  rw [rounds_succ]
  go_wp2_with (go_at_call 47; refine (ins_nil _ _).mono ?_; rintro ee ww ⟨rfl, rfl⟩)
  refine wp_loop_rounds 1 ?_
  rw [rounds_succ]
  go_wp2
  go_end0
  exact Same.mk rfl

/-- what sorting a row of the call's own does -/
def SortedW (base : Nat) (v : Value) (n : Nat) (zs : List (Int × Int)) (w w' : World) : Prop :=
  ∃ ys : List (Int × Int), ys.Perm zs ∧ ascW ys ∧ w'.ownsRow base 35 2 v n (cel2.row ys) ∧ w.grownBy w' v.ownBlock
theorem stableRow_c (base : Nat) (a : Option Addr) (n c : Nat) (zs : List (Int × Int)) (w : World) (h : w.ownsRow base 35 2 (.slice a n c) n (cel2.row zs)) (hz : zs.length = n) (hn : n ≤ 1000000) :
    Calls Try.prog 46 #[.slice a n c, .int .i64 n, .func (.func 37) #[] #[]] w fun e w' => e = .returned (.tuple #[]) ∧ SortedW base (.slice a n c) n zs w w' := by
  rcases h.2 with ⟨h0, h1⟩ | ⟨g, cap, cur, hv, hb, hg, -⟩
  · cases h0
    have : zs = [] := List.eq_nil_of_length_eq_zero hz
    subst this
    refine (stable_nil _ w).mono ?_
    rintro e w' ⟨rfl, rfl⟩
    exact ⟨rfl, [], List.Perm.refl _, List.Pairwise.nil, h, grown_refl _ _⟩
  · cases hv
    have hc := stable_c g 0 c n zs.toArray w (rowK_own h) (by simp [hz]) hn
    refine hc.mono ?_
    rintro e w' ⟨rfl, d', hm, S⟩
    have hs : d'.size = n := by rw [hm.perm.1]; simp [hz]
    obtain ⟨o1, o2⟩ := own_sorted h S hs
    exact ⟨rfl, d'.toList, perm_of hm.perm hz, asc_of hm.sorted hs, o1, o2⟩
set_option maxHeartbeats 1000000 in
theorem SortStableFunc_c (base : Nat) (a : Option Addr) (n c : Nat) (zs : List (Int × Int)) (w : World) (h : w.ownsRow base 35 2 (.slice a n c) n (cel2.row zs)) (hz : zs.length = n) (hn : n ≤ 1000000) :
    Calls Try.prog 42 #[.slice a n c, .func (.func 37) #[] #[]] w fun e w' => e = .returned (.tuple #[]) ∧ SortedW base (.slice a n c) n zs w w' := by
  have hc := stableRow_c base a n c zs w h hz hn
  generalize SortedW base (.slice a n c) n zs w = R at hc ⊢
  clear h hz
  go_enter Try.func42, Try.ntmps42
  go_wp2_with (go_at_call 46; refine hc.mono ?_; rintro e w' ⟨rfl, hR⟩)
  go_end0
  exact ⟨rfl, hR⟩

set_option maxHeartbeats 1000000 in
theorem Collect_c (Bs : Nat) (a : Option Addr) (len cap : Nat) (zs : List (Int × Int)) (hz : zs.length ≤ 1000000) (w : World) (hs : Sl cel2 w a len cap zs) (hBs : Bs < w.heap.size) (hc : w.cell? ⟨Bs, 0, none⟩ = some (.slice a len cap)) :
    Calls Try.prog 41 #[.func (.func 43) #[] #[.pointer (some ⟨Bs, 0, none⟩)]] w (RetRow 35 2 (fun v => v) zs.length (cel2.row zs) w) := by
  have H := Lib.hid (AppendSeq_c Bs a len cap zs hz w hs hBs hc)
  clear hs hc
  go_enter Try.func41, Try.ntmps41
  go_wp2_with (go_at_call 45; go_loud (refine H.out.mono ?_; rintro ee ww ⟨v, g, rfl, rfl, hown⟩))
  go_ret
  exact RetRow.mk' rfl (by (repeat (first | with_reducible exact Bel.refl _ | with_reducible assumption | apply Bel.ext | apply Bel.alloc | apply Bel.drew | exact Bel.refl _ | refine Bel.set ?_ (by first | (simp; done) | (simp [go_sem]; done) | omega) _)) : Bel _ _) hown
set_option maxHeartbeats 1000000 in
theorem SortedStableFunc_c (Bs : Nat) (a : Option Addr) (len cap : Nat) (zs : List (Int × Int)) (hz : zs.length ≤ 1000000) (w : World) (hs : Sl cel2 w a len cap zs) (hBs : Bs < w.heap.size) (hc : w.cell? ⟨Bs, 0, none⟩ = some (.slice a len cap)) :
    Calls Try.prog 35 #[.func (.func 43) #[] #[.pointer (some ⟨Bs, 0, none⟩)], .func (.func 37) #[] #[]] w
      fun e w' => ∃ ys : List (Int × Int), ys.Perm zs ∧ ascW ys ∧ RetRow 35 2 (fun v => v) ys.length (cel2.row ys) w e w' := by
  have h := Collect_c Bs a len cap zs hz w hs hBs hc
  have H := Lib.hid h
  clear hs hc h
  go_enter Try.func35, Try.ntmps35
  go_wp2_with (first | (go_at_call 41; refine H.out.mono ?_; rintro ee ww ⟨v, g, rfl, rfl, hown⟩; obtain ⟨a1, c1, rfl, -, -⟩ := own_len hown; have HO := Lib.hid hown; clear hown) | (go_at_call 42; refine (SortStableFunc_c _ _ _ _ zs _ HO.out rfl hz).mono ?_; rintro ee w2 ⟨rfl, hS⟩))
  go_ret
  obtain ⟨ys, h1, h2, h3, h4⟩ := hS
  have hlt := HO.out.lt
  refine ⟨ys, h1, h2, RetRow.mk' rfl (Below.grown (ext_below w g) h4 (ext_below w g).size fun k hk => (hlt k hk).1) ?_⟩
  rw [h1.length_eq]; exact h3
end Go.Proofs.Ytdneffnnpjgnbab
