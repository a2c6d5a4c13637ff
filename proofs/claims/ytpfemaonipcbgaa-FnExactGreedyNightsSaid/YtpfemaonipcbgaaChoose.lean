/- The first list of some windows that show all bins: what the program's search returns. -/
import Derived.Test.YtpfemaonipcbgaaCombPlain
namespace Go.Proofs.Ytpfemaonipcbgaa
open Go.RowKit

/-- what a search hands back: a list of its own, if there is one -/
def RetOpt (e : TypeId) (r : Option (List Int)) (w : World) (en : Ending) (w' : World) : Prop :=
  ∃ v g, en = .returned (.tuple #[v, .bool r.isSome]) ∧ w' = ext w g ∧ ∀ l, r = some l → ∃ b c, v = .slice (some ⟨b, 0, none⟩) l.length c ∧ (ext w g).ownsRow w.heap.size e 1 v l.length (celI.row l)
theorem Sl.atU {w : World} {b off n c : Nat} {xs : List Nat} (h : Sl celU w (some ⟨b, off, none⟩) n c xs) {k : Nat} (hk : k < n) :
    ∃ x, Hid (xs[k]? = some x) ∧ w.cell? ⟨b, off + k, none⟩ = some (.int .u64 (x : Int)) := by
  obtain ⟨x, hx⟩ := h.get hk
  obtain ⟨b', off', ha, hb, hc⟩ := h.at_ (by omega)
  cases ha
  have := hc k x hx 0 _ rfl
  exact ⟨x, hx, by simpa [celU] using this⟩
theorem rowI_lenW (l : List Int) : (celI.row l).length = l.length * 1 := Cel.row_len celI l
set_option maxHeartbeats 2000000 in
theorem choose_zero (due k hv : Nat) (u : Value) (sets : List Nat) (w : World) (h1 : hv < 2 ^ 64) (h2 : due < 2 ^ 64) :
    Calls Try.prog 48 #[u, .int .i64 (k : Int), .int .i64 0, .int .u64 (hv : Int), .int .u64 (due : Int)] w (RetOpt 2 (comb due 0 k hv (sets.drop k)) w) := by
  generalize hR : RetOpt _ _ w = R
  have HR := Lib.hid hR
  clear hR
  rw [comb_zero] at HR
  by_cases he : hv = due
  · have hd : ((hv : Int) == due) = true := by simp [he]
    have HD := Lib.hid (show (if hv == due then some ([] : List Int) else none) = some [] from by simp [he])
    rw [HD.out] at HR
    clear he h1 h2 HD
    go_enter Try.func48, Try.ntmps48
    go_wp2
    rw [← HR.out]
    refine ⟨.slice (some ⟨w.heap.size, 0, none⟩) 0 0, w.alloc (.cells #[] 2), rfl, (ext_of (by (repeat (first | with_reducible exact Bel.refl _ | with_reducible assumption | apply Bel.ext | apply Bel.alloc | apply Bel.drew | exact Bel.refl _ | refine Bel.set ?_ (by first | (simp; done) | (simp [go_sem]; done) | omega) _)) : Bel _ _)).symm, fun l hl => ?_⟩
    cases hl
    refine ⟨_, _, rfl, ?_⟩
    rw [ext_of (by (repeat (first | with_reducible exact Bel.refl _ | with_reducible assumption | apply Bel.ext | apply Bel.alloc | apply Bel.drew | exact Bel.refl _ | refine Bel.set ?_ (by first | (simp; done) | (simp [go_sem]; done) | omega) _)) : Bel _ _)]
    exact own_empty _ _ _ _ (Nat.le_refl _)
  · have hd : ((hv : Int) == due) = false := by simp; omega
    have HD := Lib.hid (show (if hv == due then some ([] : List Int) else none) = none from by simp [he])
    rw [HD.out] at HR
    clear he h1 h2 HD
    go_enter Try.func48, Try.ntmps48
    go_wp2
    rw [← HR.out]
    exact ⟨_, w.alloc (.cells #[] 2), rfl, (ext_of (by (repeat (first | with_reducible exact Bel.refl _ | with_reducible assumption | apply Bel.ext | apply Bel.alloc | apply Bel.drew | exact Bel.refl _ | refine Bel.set ?_ (by first | (simp; done) | (simp [go_sem]; done) | omega) _)) : Bel _ _)).symm, fun l hl => by cases hl⟩
set_option maxHeartbeats 4000000 in
theorem choose_c (due : Nat) (u : Value) (sets : List Nat) (hd : due < 2 ^ 64) (hs64 : ∀ s ∈ sets, s < 2 ^ 64) (hlen : sets.length ≤ 30) : ∀ (m k hv : Nat) (w : World), k ≤ sets.length → m ≤ 30 → hv < 2 ^ 64 → Rd celU w u sets →
    Calls Try.prog 48 #[u, .int .i64 (k : Int), .int .i64 (m : Int), .int .u64 (hv : Int), .int .u64 (due : Int)] w (RetOpt 2 (comb due m k hv (sets.drop k)) w) := by
  intro m
  induction m with
  | zero => exact fun k hv w _ _ h1 _ => choose_zero due k hv u sets w h1 hd
  | succ m ih =>
    intro k hv w hk0 hm h1 hu
    generalize hR : RetOpt _ _ w = R
    have HR := Lib.hid hR
    clear hR
    have IH := Lib.hid (fun (k hv : Nat) (w : World) (h1 : k ≤ sets.length) (h2 : hv < 2 ^ 64) (h3 : Rd celU w u sets) => ih k hv w h1 (by omega) h2 h3)
    obtain ⟨a, n, c, rfl, hs⟩ := hu.sl
    have hcap := hs.le; have hmax := hs.cap
    unfold maxLen at hmax
    have HL := Lib.hid hs.len
    have HS64 := Lib.hid hs64
    have HHV := Lib.hid h1
    rw [← HL.out] at hlen hk0
    have hm0 : (((m + 1 : Nat) : Int) == 0) = false := by simp; omega
    clear hs64 h1 hd ih
    rw [Int.natCast_add, Int.natCast_one] at hm0 ⊢
    go_enter Try.func48, Try.ntmps48
    go_wp2
    go_loopw [12] (fun i wr => ∃ j : Nat, j ≤ n ∧ i = .int .i64 j ∧ (∃ g, wr = ext w g) ∧ Hid (comb due (m + 1) k hv (sets.drop k) = comb due (m + 1) j hv (sets.drop j))) (fun i _ => n - (intOf i).toNat)
    case atStart => exact ⟨k, hk0, rfl, ext_ex (by (repeat (first | with_reducible exact Bel.refl _ | with_reducible assumption | apply Bel.ext | apply Bel.alloc | apply Bel.drew | exact Bel.refl _ | refine Bel.set ?_ (by first | (simp; done) | (simp [go_sem]; done) | omega) _)) : Bel _ _), Lib.hid rfl⟩
    case round =>
      obtain ⟨j, hj, rfl, ⟨g, rfl⟩, hv2⟩ := hrel
      by_cases hlt : j + (m + 1) ≤ n
      · obtain ⟨bb, off, rfl, hb⟩ := hs.base (k := j) (by omega)
        obtain ⟨s, hx, hc⟩ := hs.atU (k := j) (by omega)
        have hs6 := HS64.out s (List.mem_of_getElem? hx.out)
        have HB := Lib.hid (bits_or_u HHV.out hs6)
        have HOR := Lib.hid (Nat.or_lt_two_pow HHV.out hs6)
        have HC := Lib.hid (fun (w' : World) (hw' : Bel w w') => IH.out (j + 1) (hv ||| s) w' (by rw [← HL.out]; omega) HOR.out (hu.bel hw'))
        have HH := Lib.hid (fun l => comb_hit (l := l) (due := due) (m := m) (hv := hv) hx.out)
        have HM := Lib.hid (comb_miss (due := due) (m := m) (hv := hv) hx.out)
        have HLN := Lib.hid (fun l => @comb_len due (sets.drop (j + 1)) m (j + 1) (hv ||| s) l)
        have hlt1 : (j : Int) + ((m : Int) + 1) ≤ n := by omega
        clear hs6
        rw [← HB.out, Int.natCast_add, Int.natCast_one] at HC
        generalize comb due m (j + 1) (hv ||| s) (sets.drop (j + 1)) = r at *
        rcases r with _ | l
        · have HM2 := Lib.hid (HM.out rfl)
          clear HM HH
          go_wp2_with (first | (go_at_call 48; refine Calls.mono (HC.out _ ?_) ?_; (focus (repeat (first | with_reducible exact Bel.refl _ | with_reducible assumption | apply Bel.ext | apply Bel.alloc | apply Bel.drew | exact Bel.refl _))); rintro ee ww ⟨v1, g1, rfl, rfl, hl1⟩))
          go_roundw
          case rel => exact ⟨j + 1, by omega, by go_num, ext_ex (by (repeat (first | with_reducible exact Bel.refl _ | with_reducible assumption | apply Bel.ext | apply Bel.alloc | apply Bel.drew | exact Bel.refl _ | refine Bel.set ?_ (by first | (simp; done) | (simp [go_sem]; done) | omega) _)) : Bel _ _), Lib.hid (by rw [hv2.out, HM2.out])⟩
          case measure => simp [intOf]; omega
        · have hll := HLN.out l rfl
          have HR2 := Lib.hid (show RetOpt 2 (some ((j : Int) :: l)) w = R from by rw [← HR.out, hv2.out, HH.out l rfl])
          have hl30 : l.length ≤ 30 := by omega
          clear HM HH HR hv2 hll
          go_wp2_with (first | (go_at_call 48; refine Calls.mono (HC.out _ ?_) ?_; (focus (repeat (first | with_reducible exact Bel.refl _ | with_reducible assumption | apply Bel.ext | apply Bel.alloc | apply Bel.drew | exact Bel.refl _))); rintro ee ww ⟨v1, g1, rfl, rfl, hl1⟩; obtain ⟨b1, c1, rfl, ho1⟩ := hl1 l rfl; have HO1 := Lib.hid ho1; clear hl1 ho1) | (at_builtin; refine wpList_append_ext rfl (.tmp 48) (.tmp 49) 28 2 1 8 rfl appIntW (by decide) w _ 1 [.int .i64 (j : Int)] rfl (own_lit _ w.heap.size 2 1 [.int .i64 (j : Int)] 1 rfl ?_ (by unfold maxLen; omega)) ⟨b1, 0, none⟩ l.length c1 (celI.row l) rfl (rowI_lenW l) ?_ (fun u hu => by unfold Cel.row at hu; obtain ⟨x, _, hx⟩ := List.mem_flatMap.1 hu; exact celI.one x u hx) ?_ (by omega) (by omega) ?_; (focus (exact bel_size (by (repeat (first | with_reducible exact Bel.refl _ | with_reducible assumption | apply Bel.ext | apply Bel.alloc | apply Bel.drew | exact Bel.refl _ | refine Bel.set ?_ (by first | (simp; done) | (simp [go_sem]; done) | omega) _)) : Bel w _))); (focus (intro i u hi; have h9 := HO1.out.cells (g := b1) rfl i u hi; rw [addr_add, Nat.zero_add] at h9 ⊢; rw [Below.cell (by (repeat (first | with_reducible exact Bel.refl _ | with_reducible assumption | apply Bel.ext | apply Bel.alloc | apply Bel.drew | exact Bel.refl _ | refine Bel.set ?_ (by first | (simp; done) | (simp [go_sem]; done) | omega) _)) : Bel _ _) (p := ⟨b1, i, none⟩) (HO1.out.lt b1 rfl).2]; exact h9)); (focus (repeat (first | with_reducible exact Bel.refl _ | with_reducible assumption | apply Bel.ext | apply Bel.alloc | apply Bel.drew | exact Bel.refl _ | refine Bel.set ?_ (by first | (simp; done) | (simp [go_sem]; done) | omega) _))); intro v2 g2 hown2 hgr2))
          rw [← HR2.out]
          obtain ⟨b2, c2, hv3, -⟩ := own_far hown2 (by omega)
          subst hv3
          refine ⟨_, _, rfl, rfl, fun l' hl' => ?_⟩
          cases hl'
          have e : 1 + l.length = ((j : Int) :: l).length := by simp; omega
          rw [e] at hown2
          refine ⟨b2, c2, by rw [e]; rfl, ?_⟩
          rw [e]
          exact hown2
      · have hlt1 : ¬ (j : Int) + ((m : Int) + 1) ≤ n := by omega
        have HN := Lib.hid (comb_short due (sets.drop j) (m + 1) j hv (by rw [List.length_drop, ← HL.out]; omega))
        have HR2 := Lib.hid (show RetOpt 2 none w = R from by rw [← HR.out, hv2.out, HN.out])
        clear HR hv2 HN
        go_wp2
        rw [← HR2.out]
        exact ⟨_, _, rfl, rfl, fun l hl => by cases hl⟩
end Go.Proofs.Ytpfemaonipcbgaa
