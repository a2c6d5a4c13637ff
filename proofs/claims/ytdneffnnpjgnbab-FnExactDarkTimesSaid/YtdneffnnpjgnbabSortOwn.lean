/- A row of windows that the call owns, put in another order in place; no program in sight. -/
import Derived.Shelf.SlSortCmp.KitK
import Derived.Test.YtdneffnnpjgnbabMem
namespace Go.Proofs.Ytdneffnnpjgnbab
open Go.RowKit Go.Sort

def encW (x : Int × Int) : List Value := [.int .i64 x.1, .int .i64 x.2]
theorem encW_len (x : Int × Int) : (encW x).length = 2 := rfl
theorem encW_one (x : Int × Int) : ∀ v ∈ encW x, v.oneCell' = true := cel2.one x
theorem flat_row (zs : List (Int × Int)) : (flatK encW 2 zs.toArray).toList = cel2.row zs := by
  have hl : (cel2.row zs).length = zs.length * 2 := cel2.row_len zs
  apply List.ext_getElem?
  intro t
  by_cases ht : t < zs.length * 2
  · have hd : t / 2 < zs.length := by omega
    have hm : t % 2 < 2 := Nat.mod_lt _ (by decide)
    have hx : zs[t / 2]? = some zs[t / 2] := by simp
    have hu : (cel2.cells zs[t / 2])[t % 2]? = some ((encW zs[t / 2])[t % 2]!) := by
      have : cel2.cells zs[t / 2] = encW zs[t / 2] := rfl
      rw [this, List.getElem!_eq_getElem?_getD, List.getElem?_eq_getElem (by rw [encW_len]; exact hm)]; rfl
    have h1 := cel2.row_get zs (t / 2) _ (t % 2) _ hx hu
    rw [show t / 2 * cel2.size + t % 2 = t from by show t / 2 * 2 + t % 2 = t; omega] at h1
    rw [h1]
    have h2 := get_flatK encW 2 zs.toArray t (by simpa using ht)
    rw [getElem!_pos _ t (by simpa using ht)] at h2
    rw [Array.getElem?_toList, Array.getElem?_eq_getElem (by simpa using ht), h2]
    simp [hd]
  · rw [List.getElem?_eq_none (by simp; omega), List.getElem?_eq_none (by omega)]
theorem holds_own {w : World} {base g n cap : Nat} {e : TypeId} {zs : List (Int × Int)} (h : w.ownsRow base e 2 (.slice (some ⟨g, 0, none⟩) n cap) n (cel2.row zs)) : HoldsK encW 2 w g 0 zs.toArray := by
  rcases h.2 with ⟨h0, _⟩ | ⟨g', cap', cur, hv, hb, hg, h1, h2, h3, h4⟩
  · cases h0
  cases hv
  intro j hj
  refine ⟨?_, by simp [World.frozen?, hg]⟩
  have hl : (cel2.row zs).length = n * 2 := h.1
  rw [← flat_row zs] at h4 hl
  have hj' : j < n * 2 := by rw [← hl]; simpa using hj
  have h5 : (cur.toList.take (n * 2))[j]? = (flatK encW 2 zs.toArray).toList[j]? := by rw [h4]
  rw [List.getElem?_take_of_lt hj', Array.getElem?_toList, Array.getElem?_toList, Array.getElem?_eq_getElem hj] at h5
  simp only [World.cell?, hg, Nat.zero_add]
  simp only [Option.isSome_none, Bool.false_eq_true, if_false]
  rw [h5, getElem!_pos _ j hj]; rfl
theorem own_sorted {w w' : World} {base g n cap : Nat} {e : TypeId} {zs : List (Int × Int)} {d : Array (Int × Int)} (h : w.ownsRow base e 2 (.slice (some ⟨g, 0, none⟩) n cap) n (cel2.row zs)) (hS : SWK encW 2 w g 0 d w') (hd : d.size = n) :
    w'.ownsRow base e 2 (.slice (some ⟨g, 0, none⟩) n cap) n (cel2.row d.toList) ∧ w.grownBy w' (some g) := by
  obtain ⟨m, os, rfl⟩ := hS
  rcases h.2 with ⟨h0, _⟩ | ⟨g', cap', cur, hv, hb, hg, h1, h2, h3, h4⟩
  · cases h0
  cases hv
  have hgs : g < w.heap.size := (Array.getElem?_eq_some_iff.1 hg).1
  have hF : flatK encW 2 d = flatK encW 2 d.toList.toArray := by simp
  have hbl : (sortWorldK encW 2 w g 0 m d os).heap[g]? = some (.cells (putCells id 0 (flatK encW 2 d) cur) e (0, 0)) := by
    unfold sortWorldK
    rw [heap_grow_old _ _ (by rw [size_putRowK]; exact hgs)]
    simp [putRowK, putRow, mapBlock, Sort.ahead, Array.getElem?_modify, hg, onCells]
  refine ⟨⟨by rw [cel2.row_len, Array.length_toList, hd]; rfl, .inr ⟨g, cap, _, rfl, hb, hbl, h1, h2, by simp [putCells, h3], ?_⟩⟩, ?_⟩
  · rw [← flat_row, ← hF]
    apply List.ext_getElem?
    intro j
    by_cases hj : j < n * 2
    · rw [List.getElem?_take_of_lt hj, Array.getElem?_toList, Array.getElem?_toList]
      have hjF : j < (flatK encW 2 d).size := by rw [size_flatK, hd]; exact hj
      have hjc : j < cur.size := by omega
      rw [Array.getElem?_eq_getElem hjF]
      simp only [putCells, Array.getElem?_mapIdx, Array.getElem?_eq_getElem hjc, Option.map_some]
      rw [if_pos ⟨Nat.zero_le _, by omega⟩, Nat.sub_zero, getElem!_pos _ j hjF]; rfl
    · rw [List.getElem?_take_eq_none (by omega), List.getElem?_eq_none (by simp [hd]; omega)]
  · refine ⟨rfl, rfl, rfl, by unfold sortWorldK; rw [size_grow, size_putRowK]; exact Nat.le_add_right _ _, fun k hk hne => ?_⟩
    unfold sortWorldK
    rw [heap_grow_old _ _ (by rw [size_putRowK]; exact hk)]
    have : g ≠ k := fun e => hne (by rw [e])
    simp [putRowK, putRow, mapBlock, Sort.ahead, Array.getElem?_modify, this]
theorem rowK_own {w : World} {base g n cap : Nat} {e : TypeId} {zs : List (Int × Int)} (h : w.ownsRow base e 2 (.slice (some ⟨g, 0, none⟩) n cap) n (cel2.row zs)) : RowK encW 2 w g 0 zs.toArray :=
  ⟨encW_len, encW_one, holds_own h, (h.lt g rfl).2⟩
end Go.Proofs.Ytdneffnnpjgnbab
