/- Minima with the nearest cycles: what both sides return. -/
import Derived.Test.YtlnpfggcmjljbaaRises
import Derived.Test.YtlnpfggcmjljbaaResid
namespace Go.Proofs.Ytlnpfggcmjljbaa
open Go.RowKit

def cycI (e p t : Int) : Int := roundI (t - e) p
def resI (e p t : Int) : Int := t - e - cycI e p t * p
def asgL (e p : Int) (xs : List Int) : List (Int × Int) := xs.map fun t => (cycI e p t, t)
def nearB (e p m : Int) (xs : List Int) : Bool := xs.all fun t => decide (absI (resI e p t) ≤ m)
def assignI (e p m : Int) (xs : List Int) : List (Int × Int) × Int :=
  if !ephB e p then ([], 1) else if !timesB xs then ([], 2) else if !inB m 0 1000000 then ([], 2) else if !nearB e p m xs then ([], 9) else if !minimaB (asgL e p xs) then ([], 6) else (asgL e p xs, 0)
theorem assignI_len (e p m : Int) (xs : List Int) : (assignI e p m xs).1.length ≤ xs.length := by
  unfold assignI; split <;> (try split) <;> (try split) <;> (try split) <;> (try split) <;> simp [asgL]
theorem round_mul {n d : Int} (h : 0 < d) : n - d ≤ roundI n d * d ∧ roundI n d * d ≤ n + d := by
  rw [roundI_eq n d h]
  have h0 := Int.emod_nonneg n (show d ≠ 0 by omega)
  have h1 := Int.emod_lt_of_pos n h
  have h2 : n % d = n - n / d * d := by have := Int.emod_add_mul_ediv n d; rw [Int.mul_comm]; omega
  split
  · rw [Int.add_mul, Int.one_mul]; omega
  · omega
theorem asg_bd {e p t : Int} (e1 : 0 ≤ e) (e2 : e ≤ 10000000) (p1 : 1 ≤ p) (p2 : p ≤ 1000000) (t1 : 0 ≤ t) (t2 : t ≤ 10000000) :
    -12000000 ≤ cycI e p t * p ∧ cycI e p t * p ≤ 12000000 ∧ -12000000 ≤ cycI e p t ∧ cycI e p t ≤ 12000000 := by
  obtain ⟨h1, h2⟩ := round_mul (n := t - e) (d := p) (by omega)
  change t - e - p ≤ cycI e p t * p at h1
  change cycI e p t * p ≤ t - e + p at h2
  refine ⟨by omega, by omega, ?_, ?_⟩
  · rcases Int.le_total 0 (cycI e p t) with h | h
    · omega
    · have := Int.mul_le_mul_of_nonpos_left h p1; omega
  · rcases Int.le_total 0 (cycI e p t) with h | h
    · have := Int.mul_le_mul_of_nonneg_left p1 h; omega
    · omega
theorem all_bad {α : Type} {p : α → Bool} {xs : List α} {k : Nat} {x : α} (hx : xs[k]? = some x) (hq : p x = false) : xs.all p = false := by
  rw [List.all_eq_false]; exact ⟨x, List.mem_of_getElem? hx, by simp [hq]⟩
theorem all_snoc {α : Type} {p : α → Bool} {xs : List α} {k : Nat} {x : α} (ha : (xs.take k).all p = true) (hx : xs[k]? = some x) (hq : p x = true) : (xs.take (k + 1)).all p = true := by
  rw [take_snoc_of hx]; simp [ha, hq]
theorem all_full {α : Type} {p : α → Bool} {xs : List α} {k : Nat} (ha : (xs.take k).all p = true) (h : xs.length ≤ k) : xs.all p = true := by
  rw [List.take_of_length_le h] at ha; exact ha
set_option maxHeartbeats 1000000 in
theorem residualW_c (e p x y : Int) (e1 : 0 ≤ e) (e2 : e ≤ 10000000) (q1 : -12000000 ≤ x * p) (q2 : x * p ≤ 12000000) (y1 : 0 ≤ y) (y2 : y ≤ 10000000) (w : World) :
    Calls Try.prog 65 #[.agg #[.int .i64 e, .int .i64 p], .agg #[.int .i64 x, .int .i64 y]] w (Ret (.int .i64 (y - e - x * p)) w) := by
  refine hide_ret fun v H => ?_
  go_enter Try.func65, Try.ntmps65
  go_wp2
  go_ret
  refine Ret.mk ?_ (?_ : Bel _ _)
  · exact H.out
  · (repeat (first | exact Bel.refl _ | apply Bel.ext | apply Bel.alloc | apply Bel.drew | refine Bel.set ?_ (by first | (simp; done) | (simp [go_sem]; done) | omega) _))
set_option maxHeartbeats 1000000 in
theorem l13ResidualW_c (x y e p : Int) (e1 : 0 ≤ e) (e2 : e ≤ 10000000) (q1 : -12000000 ≤ x * p) (q2 : x * p ≤ 12000000) (y1 : 0 ≤ y) (y2 : y ≤ 10000000) (w : World) :
    Calls Try.prog 63 #[.agg #[.int .i64 x, .int .i64 y], .agg #[.int .i64 e, .int .i64 p]] w (Ret (.int .i64 (y - e - x * p)) w) := by
  refine hide_ret fun v H => ?_
  go_enter Try.func63, Try.ntmps63
  go_wp2
  go_ret
  refine Ret.mk ?_ (?_ : Bel _ _)
  · exact H.out
  · (repeat (first | exact Bel.refl _ | apply Bel.ext | apply Bel.alloc | apply Bel.drew | refine Bel.set ?_ (by first | (simp; done) | (simp [go_sem]; done) | omega) _))
set_option maxHeartbeats 8000000 in
theorem AssignCycles_c (u : Value) (xs : List Int) (e p m : Int) (w : World) (hu : Rd celI w u xs) :
    Calls Try.prog 46 #[u, .agg #[.int .i64 e, .int .i64 p], .int .i64 m] w (RetRow 41 2 (fun v => .tuple #[v, .int .i64 (assignI e p m xs).2]) (assignI e p m xs).1.length (cel2.row (assignI e p m xs).1) w) := by
  generalize hR : RetRow _ _ _ _ _ w = R
  have HR := Lib.hid hR
  clear hR
  have hu' := hu
  obtain ⟨a, n, c, rfl, hs⟩ := hu'.sl
  have hcap := hs.le; have hmax := hs.cap
  unfold maxLen at hmax
  have HL := Lib.hid hs.len
  have VE := Lib.hid (fun w => ValidEphemeris_c e p w)
  have VT := Lib.hid (fun w hu => areTimes_c (.slice a n c) xs w hu)
  have VI := Lib.hid (fun w => in_c m 0 1000000 w)
  unfold assignI at HR
  rcases h1 : ephB e p with _ | _ <;> rcases h2 : timesB xs with _ | _ <;> rcases h3 : inB m 0 1000000 with _ | _ <;> simp only [h1, h2, h3, Bool.not_true, Bool.not_false, if_true, if_false, Bool.false_eq_true] at HR VE VT VI
  case true.true.true =>
    obtain ⟨e1, e2, p1, p2⟩ := ephB_iff.1 h1
    obtain ⟨m1, m2⟩ := inB_iff.1 h3
    have hget : ∀ (k : Nat) (x : Int), xs[k]? = some x → 0 ≤ x ∧ x ≤ 10000000 := fun k x hx => timesB_get h2 hx
    have hlen := timesB_len h2
    rw [← HL.out] at hlen
    clear h1 h2 h3
    go_enter Try.func46, Try.ntmps46
    go_wp2_with (first | (go_at_call 64; refine Calls.mono (VE.out _) ?_; rintro ee ww ⟨rfl, _, rfl⟩) | (go_at_call 73; refine Calls.mono (VT.out _ (hu.bel ?_)) ?_; (focus (repeat (first | exact Bel.refl _ | apply Bel.ext | apply Bel.alloc | apply Bel.drew))); rintro ee ww ⟨rfl, _, rfl⟩) | (go_at_call 61; refine Calls.mono (VI.out _) ?_; rintro ee ww ⟨rfl, rfl⟩))
    have hwA : Bel w (w.alloc (Obj.cells #[.int .i64 e, .int .i64 p] 56)) := by (repeat (first | exact Bel.refl _ | apply Bel.ext | apply Bel.alloc | apply Bel.drew | refine Bel.set ?_ (by first | (simp; done) | (simp [go_sem]; done) | omega) _))
    have hE0 : (w.alloc (Obj.cells #[.int .i64 e, .int .i64 p] 56)).cell? ⟨w.heap.size, 0, none⟩ = some (.int .i64 e) := by simp [go_sem]
    have hE1 : (w.alloc (Obj.cells #[.int .i64 e, .int .i64 p] 56)).cell? ⟨w.heap.size, 1, none⟩ = some (.int .i64 p) := by simp [go_sem]
    have hEz : w.heap.size < (w.alloc (Obj.cells #[.int .i64 e, .int .i64 p] 56)).heap.size := by simp
    have hsA := hs.bel hwA
    generalize w.alloc (Obj.cells #[.int .i64 e, .int .i64 p] 56) = A at *
    go_loopw [8, 28] (fun o i wr => ∃ k : Nat, k ≤ n ∧ i = .int .i64 k ∧ Bel A wr ∧ Hid (nearB e p m (xs.take k) = true) ∧ Hid (wr.ownsRow A.heap.size 41 2 o k (cel2.row (asgL e p (xs.take k))))) (fun _ i _ => n - (intOf i).toNat)
    case atStart => exact ⟨0, by omega, by go_num, by (repeat (first | exact Bel.refl _ | apply Bel.ext | apply Bel.alloc | apply Bel.drew | refine Bel.set ?_ (by first | (simp; done) | (simp [go_sem]; done) | omega) _)), Lib.hid (by simp [nearB]), Lib.hid (by refine own_empty _ _ _ _ ?_; exact bel_size (by (repeat (first | exact Bel.refl _ | apply Bel.ext | apply Bel.alloc | apply Bel.drew | refine Bel.set ?_ (by first | (simp; done) | (simp [go_sem]; done) | omega) _))))⟩
    case round =>
      obtain ⟨k, hk, rfl, hbel, hnear, hown⟩ := hrel
      obtain ⟨g, rfl⟩ := ext_ex hbel
      by_cases hlt : k < n
      · obtain ⟨b, off, rfl, hb⟩ := hsA.base hlt
        obtain ⟨t, hx, hc0⟩ := hsA.at1 hlt
        obtain ⟨t1, t2⟩ := hget k t hx.out
        obtain ⟨q1, q2, q3, q4⟩ := asg_bd e1 e2 p1 p2 t1 t2
        have HN := Lib.hid (nearest_c (t - e) p (by omega) (by omega) (by omega) (by omega))
        have HB := Lib.hid (all_bad (p := fun t => decide (absI (resI e p t) ≤ m)) hx.out)
        have HS := Lib.hid (all_snoc (p := fun t => decide (absI (resI e p t) ≤ m)) hnear.out hx.out)
        have HT := Lib.hid (map_take_succ (fun t => (cycI e p t, t)) hx.out)
        have hr : resI e p t = t - e - cycI e p t * p := rfl
        have HR1 := Lib.hid hr
        clear hr
        change Hid (∀ w, Calls Try.prog 74 #[.int .i64 (t - e), .int .i64 p] w (Same (.int .i64 (cycI e p t)) w)) at HN
        generalize cycI e p t = cy at *
        by_cases hm : absI (t - e - cy * p) ≤ m
        · go_wp2_with (first | (at_builtin; refine wpList_append_new rfl (.tmp 47) (.tmp 49) 25 41 2 16 rfl appMinimum (by decide) A _ _ _ 1 [.int .i64 cy, .int .i64 t] rfl (by first | with_reducible rfl | (simp [go_sem]; done)) rfl (by intro u hu; simp at hu; first | (subst hu; rfl) | (rcases hu with rfl | rfl <;> rfl) | (rcases hu with rfl | rfl | rfl <;> rfl)) (own_bel hown.out ?_) ?_ (by omega) (by omega) ?_; (focus (repeat (first | exact Bel.refl _ | apply Bel.ext | apply Bel.alloc | apply Bel.drew))); (focus (repeat (first | exact Bel.refl _ | apply Bel.ext | apply Bel.alloc | apply Bel.drew))); intro v2 g2 hown2 hgr2) | (go_at_call 74; refine Calls.mono (HN.out _) ?_; rintro ee ww ⟨rfl, rfl⟩) | (go_at_call 65; refine Calls.mono (residualW_c e p cy t e1 e2 q1 q2 t1 t2 _) ?_; rintro ee ww ⟨rfl, _, rfl⟩) | (go_at_call 68; refine Calls.mono (abs_c _ (by omega) _) ?_; rintro ee ww ⟨rfl, rfl⟩))
          go_roundw
          case rel =>
            refine ⟨k + 1, by omega, by go_num, by (repeat (first | exact Bel.refl _ | apply Bel.ext | apply Bel.alloc | apply Bel.drew | refine Bel.set ?_ (by first | (simp; done) | (simp [go_sem]; done) | omega) _)), Lib.hid (HS.out (by rw [HR1.out]; simpa using hm)), Lib.hid ?_⟩
            unfold asgL
            rw [HT.out, Cel.row_append, Cel.row_one]; exact hown2
          case measure => simp [intOf]; omega
        · go_wp2_with (first | (go_at_call 74; refine Calls.mono (HN.out _) ?_; rintro ee ww ⟨rfl, rfl⟩) | (go_at_call 65; refine Calls.mono (residualW_c e p cy t e1 e2 q1 q2 t1 t2 _) ?_; rintro ee ww ⟨rfl, _, rfl⟩) | (go_at_call 68; refine Calls.mono (abs_c _ (by omega) _) ?_; rintro ee ww ⟨rfl, rfl⟩))
          have hb2 : nearB e p m xs = false := HB.out (by rw [HR1.out]; simp; omega)
          have h := HR.out
          rw [hb2] at h
          rw [← h]
          refine RetRow.mk' rfl ?_ (World.ownsRow_nil _ _ _ _)
          exact Below.trans hwA (Below.mono (by (repeat (first | exact Bel.refl _ | apply Bel.ext | apply Bel.alloc | apply Bel.drew | refine Bel.set ?_ (by first | (simp; done) | (simp [go_sem]; done) | omega) _)) : Bel A _) hwA.size)
      · have hk' : k = n := by omega
        subst hk'
        have hna : nearB e p m xs = true := all_full hnear.out (by rw [← HL.out]; exact Nat.le_refl _)
        have hO := hown.out
        rw [List.take_of_length_le (by rw [HL.out]; exact Nat.le_refl _), show k = (asgL e p xs).length from by rw [HL.out]; simp [asgL]] at hO
        have HO := Lib.hid hO
        clear hO hown
        simp only [hna, Bool.not_true, Bool.not_false, if_true, if_false, Bool.false_eq_true] at HR
        clear hna
        rcases h5 : minimaB (asgL e p xs) with _ | _ <;> simp only [h5, Bool.not_true, Bool.not_false, if_true, if_false, Bool.false_eq_true] at HR
        · have HV := Lib.hid (fun u w hu => h5 ▸ ValidMinima_c u (asgL e p xs) w hu)
          clear h5
          go_wp2_with (first | (go_at_call 17; refine Calls.mono (HV.out _ _ (rd_of_row (own_bel HO.out ?_))) ?_; (focus (repeat (first | exact Bel.refl _ | apply Bel.ext | apply Bel.alloc | apply Bel.drew))); rintro ee ww ⟨rfl, _, rfl⟩))
          rw [← HR.out]
          refine RetRow.mk' rfl ?_ (World.ownsRow_nil _ _ _ _)
          exact Below.trans hwA (Below.mono (by (repeat (first | exact Bel.refl _ | apply Bel.ext | apply Bel.alloc | apply Bel.drew | refine Bel.set ?_ (by first | (simp; done) | (simp [go_sem]; done) | omega) _)) : Bel A _) hwA.size)
        · have HV := Lib.hid (fun u w hu => h5 ▸ ValidMinima_c u (asgL e p xs) w hu)
          clear h5
          go_wp2_with (first | (go_at_call 17; refine Calls.mono (HV.out _ _ (rd_of_row (own_bel HO.out ?_))) ?_; (focus (repeat (first | exact Bel.refl _ | apply Bel.ext | apply Bel.alloc | apply Bel.drew))); rintro ee ww ⟨rfl, _, rfl⟩))
          rw [← HR.out]
          refine RetRow.mk' rfl ?_ (own_mono (own_bel HO.out ?_) hwA.size)
          · exact Below.trans hwA (Below.mono (by (repeat (first | exact Bel.refl _ | apply Bel.ext | apply Bel.alloc | apply Bel.drew | refine Bel.set ?_ (by first | (simp; done) | (simp [go_sem]; done) | omega) _)) : Bel A _) hwA.size)
          · (repeat (first | exact Bel.refl _ | apply Bel.ext | apply Bel.alloc | apply Bel.drew | refine Bel.set ?_ (by first | (simp; done) | (simp [go_sem]; done) | omega) _))
  all_goals
    clear h1 h2 h3
    go_enter Try.func46, Try.ntmps46
    go_wp2_with (first | (go_at_call 64; refine Calls.mono (VE.out _) ?_; rintro ee ww ⟨rfl, _, rfl⟩) | (go_at_call 73; refine Calls.mono (VT.out _ (hu.bel ?_)) ?_; (focus (repeat (first | exact Bel.refl _ | apply Bel.ext | apply Bel.alloc | apply Bel.drew))); rintro ee ww ⟨rfl, _, rfl⟩) | (go_at_call 61; refine Calls.mono (VI.out _) ?_; rintro ee ww ⟨rfl, rfl⟩))
    rw [← HR.out]
    exact RetRow.mk' rfl (by (repeat (first | exact Bel.refl _ | apply Bel.ext | apply Bel.alloc | apply Bel.drew | refine Bel.set ?_ (by first | (simp; done) | (simp [go_sem]; done) | omega) _)) : Bel _ _) (World.ownsRow_nil _ _ _ _)
set_option maxHeartbeats 8000000 in
theorem sAssignCycles_c (u : Value) (xs : List Int) (e p m : Int) (w : World) (hu : Rd celI w u xs) :
    Calls Try.prog 44 #[u, .agg #[.int .i64 e, .int .i64 p], .int .i64 m] w (RetRow 41 2 (fun v => .tuple #[v, .int .i64 (assignI e p m xs).2]) (assignI e p m xs).1.length (cel2.row (assignI e p m xs).1) w) := by
  generalize hR : RetRow _ _ _ _ _ w = R
  have HR := Lib.hid hR
  clear hR
  have hu' := hu
  obtain ⟨a, n, c, rfl, hs⟩ := hu'.sl
  have hcap := hs.le; have hmax := hs.cap
  unfold maxLen at hmax
  have HL := Lib.hid hs.len
  have VE := Lib.hid (fun w => l09Ok_c e p w)
  have VT := Lib.hid (fun w hu => l00Rises_c (.slice a n c) xs 0 10000000 w hu)
  have VI := Lib.hid (fun w => l00In_c m 0 1000000 w)
  unfold assignI timesB at HR
  rw [← HL.out] at HR
  rcases h1 : ephB e p with _ | _ <;> rcases h2 : riseOk 0 10000000 none xs with _ | _ <;> rcases h3 : inB m 0 1000000 with _ | _ <;> rcases h4 : decide (n ≤ 50) with _ | _ <;> simp only [h1, h2, h3, h4, Bool.not_true, Bool.not_false, if_true, if_false, Bool.false_eq_true, Bool.and_true, Bool.and_false] at HR VE VT VI
  case true.true.true.true =>
    obtain ⟨e1, e2, p1, p2⟩ := ephB_iff.1 h1
    obtain ⟨m1, m2⟩ := inB_iff.1 h3
    have hlen : n ≤ 50 := by simpa using h4
    have h2' : timesB xs = true := by unfold timesB; rw [← HL.out, h2, h4]; rfl
    have hget : ∀ (k : Nat) (x : Int), xs[k]? = some x → 0 ≤ x ∧ x ≤ 10000000 := fun k x hx => timesB_get h2' hx
    clear h1 h2 h2' h3 h4
    go_enter Try.func44, Try.ntmps44
    go_wp2_with (first | (go_at_call 62; refine Calls.mono (VE.out _) ?_; rintro ee ww ⟨rfl, _, rfl⟩) | (go_at_call 71; refine Calls.mono (VT.out _ (hu.bel ?_)) ?_; (focus (repeat (first | exact Bel.refl _ | apply Bel.ext | apply Bel.alloc | apply Bel.drew))); rintro ee ww ⟨rfl, _, rfl⟩) | (go_at_call 58; refine Calls.mono (VI.out _) ?_; rintro ee ww ⟨rfl, rfl⟩))
    have hwA : Bel w (w.alloc (Obj.cells #[.int .i64 e, .int .i64 p] 56)) := by (repeat (first | exact Bel.refl _ | apply Bel.ext | apply Bel.alloc | apply Bel.drew | refine Bel.set ?_ (by first | (simp; done) | (simp [go_sem]; done) | omega) _))
    have hE0 : (w.alloc (Obj.cells #[.int .i64 e, .int .i64 p] 56)).cell? ⟨w.heap.size, 0, none⟩ = some (.int .i64 e) := by simp [go_sem]
    have hE1 : (w.alloc (Obj.cells #[.int .i64 e, .int .i64 p] 56)).cell? ⟨w.heap.size, 1, none⟩ = some (.int .i64 p) := by simp [go_sem]
    have hEz : w.heap.size < (w.alloc (Obj.cells #[.int .i64 e, .int .i64 p] 56)).heap.size := by simp
    have hsA := hs.bel hwA
    generalize w.alloc (Obj.cells #[.int .i64 e, .int .i64 p] 56) = A at *
    go_loopw [8, 9] (fun o i wr => ∃ k : Nat, k ≤ n ∧ i = .int .i64 k ∧ Bel A wr ∧ Hid (wr.ownsRow A.heap.size 41 2 o k (cel2.row (asgL e p (xs.take k))))) (fun _ i _ => n - (intOf i).toNat)
    case atStart => exact ⟨0, by omega, by go_num, by (repeat (first | exact Bel.refl _ | apply Bel.ext | apply Bel.alloc | apply Bel.drew | refine Bel.set ?_ (by first | (simp; done) | (simp [go_sem]; done) | omega) _)), Lib.hid (by refine own_empty _ _ _ _ ?_; exact bel_size (by (repeat (first | exact Bel.refl _ | apply Bel.ext | apply Bel.alloc | apply Bel.drew | refine Bel.set ?_ (by first | (simp; done) | (simp [go_sem]; done) | omega) _))))⟩
    case round =>
      obtain ⟨k, hk, rfl, hbel, hown⟩ := hrel
      obtain ⟨g, rfl⟩ := ext_ex hbel
      by_cases hlt : k < n
      · obtain ⟨b, off, rfl, hb⟩ := hsA.base hlt
        obtain ⟨t, hx, hc0⟩ := hsA.at1 hlt
        obtain ⟨t1, t2⟩ := hget k t hx.out
        have HN := Lib.hid (l02Round_c (t - e) p (by omega) (by omega) (by omega) (by omega))
        have HT := Lib.hid (map_take_succ (fun t => (cycI e p t, t)) hx.out)
        have w1 : IntKind.i64.wrap (t - e) = t - e := IntWalk.i64_in _ (by omega)
        change Hid (∀ w, Calls Try.prog 72 #[.int .i64 (t - e), .int .i64 p] w (Same (.int .i64 (cycI e p t)) w)) at HN
        generalize cycI e p t = cy at *
        go_wp2_with fail
        go_region_held3 (fun q => q.cell? ⟨w.heap.size, 0, none⟩ = some (.int .i64 e) ∧ q.cell? ⟨w.heap.size, 1, none⟩ = some (.int .i64 p) ∧ q.cell? ⟨b, off + k, none⟩ = some (.int .i64 t)) (simp [go_sem, *]) (first | (refine step_append_new (by rfl) (.tmp 34) (.tmp 50) 25 41 2 16 (by rfl) appMinimum (by decide) A _ _ _ 1 [.int .i64 cy, .int .i64 t] (by rfl) _ (by rfl) (by rfl) (by intro u hu; simp at hu; first | (subst hu; rfl) | (rcases hu with rfl | rfl <;> rfl) | (rcases hu with rfl | rfl | rfl <;> rfl)) (by intro j u hu; rcases j with _ | _ | _ | j <;> simp at hu <;> subst hu <;> simp [go_sem]) (own_bel hown.out ?_) ?_ (by omega) (by omega) ?_; (focus (repeat (first | exact Bel.refl _ | apply Bel.ext | apply Bel.alloc | apply Bel.drew))); (focus (repeat (first | exact Bel.refl _ | apply Bel.ext | apply Bel.alloc | apply Bel.drew))); intro v2 g2 hown2 hgr2) | (go_at_call 72; refine Calls.mono (HN.out _) ?_; rintro ee ww ⟨rfl, rfl⟩))
        all_goals go_wp2
        all_goals go_roundw
        case rel =>
          refine ⟨k + 1, by omega, by go_num, by (repeat (first | exact Bel.refl _ | apply Bel.ext | apply Bel.alloc | apply Bel.drew | refine Bel.set ?_ (by first | (simp; done) | (simp [go_sem]; done) | omega) _)), Lib.hid ?_⟩
          unfold asgL
          rw [HT.out, Cel.row_append, Cel.row_one]; exact hown2
        case measure => simp [intOf]; omega
      · have hk' : k = n := by omega
        subst hk'
        have hO := hown.out
        rw [List.take_of_length_le (by rw [HL.out]; exact Nat.le_refl _), show k = (asgL e p xs).length from by rw [HL.out]; simp [asgL]] at hO
        have HO := Lib.hid hO
        have hrd := rd_of_row hO
        clear hO hown
        have hl2 : (asgL e p xs).length = k := by rw [HL.out]; simp [asgL]
        have hwX : Bel A (ext A g) := (Bel.refl A).ext g
        obtain ⟨a1, n1, c1, heq, hs1⟩ := hrd.sl
        have hcap1 := hs1.le; have hmax1 := hs1.cap; have hn1 : n1 = k := by rw [hs1.len]; exact hl2
        unfold maxLen at hmax1
        subst heq
        subst hn1
        have hXE0 : (ext A g).cell? ⟨w.heap.size, 0, none⟩ = some (.int .i64 e) := by rw [ext_cell A g hEz]; exact hE0
        have hXE1 : (ext A g).cell? ⟨w.heap.size, 1, none⟩ = some (.int .i64 p) := by rw [ext_cell A g hEz]; exact hE1
        have hXz : w.heap.size < (ext A g).heap.size := ext_lt A g hEz
        have hAX : Bel A (ext A g) := (Bel.refl A).ext g
        have hsX := hsA.bel hAX
        generalize ext A g = X at *
        go_wp2
        go_loopw [10] (fun i wr => ∃ k : Nat, k ≤ n1 ∧ i = .int .i64 k ∧ (∃ g, wr = ext X g) ∧ Hid (nearB e p m (xs.take k) = true)) (fun i _ => n1 - (intOf i).toNat)
        case atStart => exact ⟨0, by omega, by go_num, ext_ex (Bel.refl _), Lib.hid (by simp [nearB])⟩
        case round =>
          obtain ⟨k, hk, rfl, ⟨g', rfl⟩, hnear⟩ := hrel
          by_cases hlt2 : k < n1
          · obtain ⟨b, off, rfl, hb⟩ := hs1.base hlt2
            obtain ⟨cy, t, hy, hc0, hc1⟩ := hs1.at2 hlt2
            obtain ⟨t', hx⟩ := hsX.get hlt2
            have hcy : cy = cycI e p t ∧ xs[k]? = some t := by
              have h := hy.out
              simp only [asgL, List.getElem?_map, hx, Option.map_some, Option.some.injEq, Prod.mk.injEq] at h
              obtain ⟨h1, rfl⟩ := h
              exact ⟨h1.symm, hx⟩
            obtain ⟨hcy, hxt⟩ := hcy
            obtain ⟨t1, t2⟩ := hget k t hxt
            obtain ⟨q1, q2, q3, q4⟩ := asg_bd e1 e2 p1 p2 t1 t2
            have HB := Lib.hid (all_bad (p := fun t => decide (absI (resI e p t) ≤ m)) hxt)
            have HS := Lib.hid (all_snoc (p := fun t => decide (absI (resI e p t) ≤ m)) hnear.out hxt)
            have hr : resI e p t = t - e - cy * p := by rw [hcy]; rfl
            have HR1 := Lib.hid hr
            rw [← hcy] at q1 q2 q3 q4
            clear hr hx hxt hcy
            by_cases hm : absI (t - e - cy * p) ≤ m
            · go_wp2_with fail
              refine region_ext (by kernel_rfl) (by kernel_rfl) ?_
              repeat (go_big_quiet_step (first | (go_at_call 63; exact Calls.in_ret (l13ResidualW_c cy t e p e1 e2 q1 q2 t1 t2 _)) | (go_at_call 67; exact Calls.in_same (l02Size_c _ (by omega) _))))
              refine wpQuiet_nil ?_
              rintro _ ⟨_, rfl⟩
              go_wp2
              go_roundw
              case rel => exact ⟨k + 1, by omega, by go_num, ext_ex (by (repeat (first | exact Bel.refl _ | apply Bel.ext | apply Bel.alloc | apply Bel.drew | refine Bel.set ?_ (by first | (simp; done) | (simp [go_sem]; done) | omega) _)) : Bel _ _), Lib.hid (HS.out (by rw [HR1.out]; simpa using hm))⟩
              case measure => simp [intOf]; omega
            · go_wp2_with fail
              refine region_ext (by kernel_rfl) (by kernel_rfl) ?_
              repeat (go_big_quiet_step (first | (go_at_call 63; exact Calls.in_ret (l13ResidualW_c cy t e p e1 e2 q1 q2 t1 t2 _)) | (go_at_call 67; exact Calls.in_same (l02Size_c _ (by omega) _))))
              refine wpQuiet_nil ?_
              rintro _ ⟨_, rfl⟩
              go_wp2
              have hb2 : nearB e p m xs = false := HB.out (by rw [HR1.out]; simp; omega)
              have h := HR.out
              rw [hb2] at h
              rw [← h]
              refine RetRow.mk' rfl ?_ (World.ownsRow_nil _ _ _ _)
              exact Below.trans hwA (Below.mono (Below.trans hAX (Below.mono (by (repeat (first | exact Bel.refl _ | apply Bel.ext | apply Bel.alloc | apply Bel.drew | refine Bel.set ?_ (by first | (simp; done) | (simp [go_sem]; done) | omega) _)) : Bel X _) hAX.size)) hwA.size)
          · have hk' : k = n1 := by omega
            have hna : nearB e p m xs = true := all_full hnear.out (by rw [← HL.out, hk']; exact Nat.le_refl _)
            simp only [hna, Bool.not_true, Bool.not_false, if_true, if_false, Bool.false_eq_true] at HR
            clear hna
            rcases h5 : minimaB (asgL e p xs) with _ | _ <;> simp only [h5, Bool.not_true, Bool.not_false, if_true, if_false, Bool.false_eq_true] at HR
            · have HV := Lib.hid (fun u w hu => h5 ▸ l13Ok_c u (asgL e p xs) w hu)
              clear h5
              go_wp2_with (first | (go_at_call 50; refine Calls.mono (HV.out _ _ (rd_of_row (own_bel HO.out ?_))) ?_; (focus (repeat (first | exact Bel.refl _ | apply Bel.ext | apply Bel.alloc | apply Bel.drew))); rintro ee ww ⟨rfl, _, rfl⟩))
              rw [← HR.out]
              refine RetRow.mk' rfl ?_ (World.ownsRow_nil _ _ _ _)
              exact Below.trans hwA (Below.mono (Below.trans hAX (Below.mono (by (repeat (first | exact Bel.refl _ | apply Bel.ext | apply Bel.alloc | apply Bel.drew | refine Bel.set ?_ (by first | (simp; done) | (simp [go_sem]; done) | omega) _)) : Bel X _) hAX.size)) hwA.size)
            · have HV := Lib.hid (fun u w hu => h5 ▸ l13Ok_c u (asgL e p xs) w hu)
              clear h5
              go_wp2_with (first | (go_at_call 50; refine Calls.mono (HV.out _ _ (rd_of_row (own_bel HO.out ?_))) ?_; (focus (repeat (first | exact Bel.refl _ | apply Bel.ext | apply Bel.alloc | apply Bel.drew))); rintro ee ww ⟨rfl, _, rfl⟩))
              rw [← HR.out]
              refine RetRow.mk' rfl ?_ (own_mono (own_bel HO.out ?_) hwA.size)
              · exact Below.trans hwA (Below.mono (Below.trans hAX (Below.mono (by (repeat (first | exact Bel.refl _ | apply Bel.ext | apply Bel.alloc | apply Bel.drew | refine Bel.set ?_ (by first | (simp; done) | (simp [go_sem]; done) | omega) _)) : Bel X _) hAX.size)) hwA.size)
              · (repeat (first | exact Bel.refl _ | apply Bel.ext | apply Bel.alloc | apply Bel.drew | refine Bel.set ?_ (by first | (simp; done) | (simp [go_sem]; done) | omega) _))
  all_goals
    clear h1 h2 h3
    have h4' := h4
    simp only [decide_eq_true_eq, decide_eq_false_iff_not] at h4'
    clear h4
    go_enter Try.func44, Try.ntmps44
    go_wp2_with (first | (go_at_call 62; refine Calls.mono (VE.out _) ?_; rintro ee ww ⟨rfl, _, rfl⟩) | (go_at_call 71; refine Calls.mono (VT.out _ (hu.bel ?_)) ?_; (focus (repeat (first | exact Bel.refl _ | apply Bel.ext | apply Bel.alloc | apply Bel.drew))); rintro ee ww ⟨rfl, _, rfl⟩) | (go_at_call 58; refine Calls.mono (VI.out _) ?_; rintro ee ww ⟨rfl, rfl⟩))
    rw [← HR.out]
    exact RetRow.mk' rfl (by (repeat (first | exact Bel.refl _ | apply Bel.ext | apply Bel.alloc | apply Bel.drew | refine Bel.set ?_ (by first | (simp; done) | (simp [go_sem]; done) | omega) _)) : Bel _ _) (World.ownsRow_nil _ _ _ _)
end Go.Proofs.Ytlnpfggcmjljbaa
