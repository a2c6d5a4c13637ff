/- The model of a grid that fits a light curve best: the program's side. -/
import Derived.Test.YtjdcdcfhnpephaaOpenG
import Derived.Test.YtjdcdcfhnpephaaSquares
namespace Go.Proofs.Ytjdcdcfhnpephaa
open Go.RowKit

theorem mem_put1 {W w : World} {L : List Ent} (h : Mem W w L) (i : Nat) {b n c : Nat} {e : TypeId} {size : Nat} {cs : List Value} (hi : L[i]? = some ⟨.slice (some ⟨b, 0, none⟩) n c, e, size, n, cs⟩) (j : Nat) (u : Value) :
    Mem W (w.setCell ⟨b, j, none⟩ u) (L.set i ⟨.slice (some ⟨b, 0, none⟩) n c, e, size, n, cs.set j u⟩) := by
  have ho := h.own i _ hi
  have hb := (ho.lt b rfl).1
  exact mem_put h i hi _ (own_stored ho j u) (set_grown _ _ _ _) (Bel.set h.bel hb u) (.inl rfl)
theorem own_cast {w : World} {B : Nat} {e : TypeId} {size : Nat} {v : Value} {n m : Nat} {xs ys : List Value} (h : w.ownsRow B e size v n xs) (hn : n = m) (hx : xs = ys) : w.ownsRow B e size v m ys := by subst hn hx; exact h
theorem box3_a {A X gq : World} {u v t : Value} {e : TypeId} (hM : Mem A X []) :
    Mem A ((ext X.drew gq).alloc (.cells #[u, v, t] e)) [⟨.slice (some ⟨(ext X.drew gq).heap.size, 0, none⟩) 1 1, e, 3, 1, [u, v, t]⟩] :=
  mem_lit (mem_bel hM (((Bel.refl _).drew).ext gq)) e 3 [u, v, t] 1 rfl (by unfold maxLen; omega)
theorem box3_b {A X gq : World} {u v t z1 z2 z3 : Value} {e : TypeId} (hM : Mem A X []) :
    Mem A ((((ext (X.alloc (.cells #[z1, z2, z3] e)).drew gq).setCell ⟨X.heap.size, 0, none⟩ u).setCell ⟨X.heap.size, 1, none⟩ v).setCell ⟨X.heap.size, 2, none⟩ t) [⟨.slice (some ⟨X.heap.size, 0, none⟩) 1 1, e, 3, 1, [u, v, t]⟩] := by
  have h1 : Mem A (X.alloc (.cells #[z1, z2, z3] e)) [⟨.slice (some ⟨X.heap.size, 0, none⟩) 1 1, e, 3, 1, [z1, z2, z3]⟩] := mem_lit hM e 3 [z1, z2, z3] 1 rfl (by unfold maxLen; omega)
  have h2 := mem_bel h1 (((Bel.refl _).drew).ext gq)
  exact mem_put1 (mem_put1 (mem_put1 h2 0 rfl 0 u) 0 rfl 1 v) 0 rfl 2 t
theorem box3_c {A X : World} {u v t z1 z2 z3 : Value} {e : TypeId} {q : Nat} (hM : Mem A X [⟨.slice (some ⟨q, 0, none⟩) 1 1, e, 3, 1, [z1, z2, z3]⟩]) :
    Mem A (((X.setCell ⟨q, 0, none⟩ u).setCell ⟨q, 1, none⟩ v).setCell ⟨q, 2, none⟩ t) [⟨.slice (some ⟨q, 0, none⟩) 1 1, e, 3, 1, [u, v, t]⟩] :=
  mem_put1 (mem_put1 (mem_put1 hM 0 rfl 0 u) 0 rfl 1 v) 0 rfl 2 t
theorem box3_cells {A X : World} {q : Nat} {e : TypeId} {u v t : Value} (hM : Mem A X [⟨.slice (some ⟨q, 0, none⟩) 1 1, e, 3, 1, [u, v, t]⟩]) :
    X.cell? ⟨q, 0, none⟩ = some u ∧ X.cell? ⟨q, 1, none⟩ = some v ∧ X.cell? ⟨q, 2, none⟩ = some t ∧ q < X.heap.size ∧ A.heap.size ≤ q := by
  have ho := hM.own 0 _ rfl
  have hc := ho.cells (g := q) rfl
  have h0 := hc 0 u rfl
  have h1 := hc 1 v rfl
  have h2 := hc 2 t rfl
  rw [addr_add] at h0 h1 h2
  exact ⟨by simpa using h0, by simpa using h1, by simpa using h2, (ho.lt q rfl).2, (ho.lt q rfl).1⟩
/-- the first of the least -/
def bestF (f : Int × Int × Int → Int) : Int × Int × Int → List (Int × Int × Int) → Int × Int × Int
  | x, [] => x
  | x, y :: r => if f y < f x then bestF f y r else bestF f x r
theorem bestF_lt {f : Int × Int × Int → Int} {x y : Int × Int × Int} {ms : List (Int × Int × Int)} {k : Nat} (h : ms[k]? = some y) (hl : f y < f x) : bestF f x (ms.drop k) = bestF f y (ms.drop (k + 1)) := by
  rw [drop_cons_of h]; simp [bestF, hl]
theorem bestF_ge {f : Int × Int × Int → Int} {x y : Int × Int × Int} {ms : List (Int × Int × Int)} {k : Nat} (h : ms[k]? = some y) (hl : ¬ f y < f x) : bestF f x (ms.drop k) = bestF f x (ms.drop (k + 1)) := by
  rw [drop_cons_of h]; simp [bestF, hl]
def sqO (e p m : Int) (xs : List (Int × Int)) (x : Int × Int × Int) : Int := sqFrom x.1 x.2.1 x.2.2 e p m 0 xs
def bestOf (e p m : Int) (xs : List (Int × Int)) (ms : List (Int × Int × Int)) : (Int × Int × Int) × Int :=
  match ms with
  | [] => ((0, 0, 0), 3)
  | x :: r => if xs.length = 0 then ((0, 0, 0), 3) else (bestF (sqO e p m xs) x r, 0)
def bestI (A B C : List Int) (e p m : Int) (xs : List (Int × Int)) : (Int × Int × Int) × Int :=
  if !gridB A B C || !ephB e p || !curveB xs then ((0, 0, 0), 1) else if !magB m then ((0, 0, 0), 2) else bestOf e p m xs ((prodL A B C).filter okM)
def bestV (r : (Int × Int × Int) × Int) : Value := .tuple #[.agg #[.int .i64 r.1.1, .int .i64 r.1.2.1, .int .i64 r.1.2.2], .int .i64 r.2]
theorem modelsL_bd {A B C : List Int} (h : gridB A B C = true) : ((prodL A B C).filter okM).length ≤ 300 := by
  have := modelsI_len A B C
  unfold modelsI at this
  rw [h] at this
  exact this
set_option maxHeartbeats 1000000 in
theorem BestModel_ok (u1 u2 u3 : Value) (A B C : List Int) (e p m : Int) (u : Value) (xs : List (Int × Int)) (w : World) (h1 : Rd celI w u1 A) (h2 : Rd celI w u2 B) (h3 : Rd celI w u3 C) (hu : Rd cel2 w u xs) (hG : gridB A B C = true) (hE : ephB e p = true) (hC : curveB xs = true) (hMg : magB m = true)
    (x y z : Int) (r : List (Int × Int × Int)) (hms : (prodL A B C).filter okM = (x, y, z) :: r) (hx0 : 0 < xs.length) :
    Calls Try.prog 45 #[.agg #[u1, u2, u3], .agg #[.int .i64 e, .int .i64 p], .int .i64 m, u] w (Ret (bestV (bestF (sqO e p m xs) (x, y, z) r, 0)) w) := by
  refine hide_ret fun v H => ?_
  have VG := Lib.hid (fun w h1 h2 h3 => isGrid_c u1 u2 u3 A B C w h1 h2 h3)
  have VE := Lib.hid (fun w => ValidEphemeris_c e p w)
  have VC := Lib.hid (fun w hu => ValidCurve_c u xs w hu)
  have VM := Lib.hid (fun w => ValidMag_c m w)
  obtain ⟨_, _, _, f1, f2, f3, _⟩ := gridB_iff.1 hG
  obtain ⟨a1, n1, c1, rfl, s1⟩ := h1.sl
  obtain ⟨a2, n2, c2, rfl, s2⟩ := h2.sl
  obtain ⟨a3, n3, c3, rfl, s3⟩ := h3.sl
  obtain ⟨aa, n, cc, rfl, hs⟩ := hu.sl
  have hcap := hs.le; have hmax := hs.cap
  unfold maxLen at hmax
  have HL := Lib.hid hs.len
  rw [← HL.out] at hx0
  clear s1 s2 s3
  have VMo := Lib.hid (fun w h1 h2 h3 => models_c (.slice a1 n1 c1) (.slice a2 n2 c2) (.slice a3 n3 c3) A B C w h1 h2 h3 f1 f2 f3)
  have hbd := modelsL_bd hG
  have HOK : Hid (∀ x ∈ (prodL A B C).filter okM, modelB x.1 x.2.1 x.2.2 = true) := Lib.hid (fun x hx => (List.mem_filter.1 hx).2)
  have HQ : Hid (∀ (a b c : Int) (w : World), modelB a b c = true → Rd cel2 w (.slice aa n cc) xs → Calls Try.prog 69 #[.agg #[.int .i64 a, .int .i64 b, .int .i64 c], .agg #[.int .i64 e, .int .i64 p], .int .i64 m, .slice aa n cc] w (Ret (.int .i64 (sqO e p m xs (a, b, c))) w)) := Lib.hid (fun a b c w hm hu => squares_c a b c e p m _ xs hm hE hMg hC w hu)
  rw [hG] at VG
  rw [hE] at VE
  rw [hC] at VC
  rw [hMg] at VM
  rw [hms] at VMo hbd HOK
  clear hG hE hC hMg f1 f2 f3 hms
  generalize sqO e p m xs = F at *
  have hn1 : ((n : Int) == 0) = false := by simp; omega
  obtain ⟨M, hM0⟩ : ∃ M, ((x, y, z) :: r).length = M := ⟨_, rfl⟩
  rw [hM0] at VMo hbd
  have hM1 : 0 < M := by rw [← hM0]; simp
  have hM2 : ((M : Int) == 0) = false := by simp; omega
  have HM := Lib.hid hM0
  clear hM0
  go_enter Try.func45, Try.ntmps45
  go_wp2_with (first | (go_at_call 75; refine Calls.mono (VG.out _ (h1.bel ?_) (h2.bel ?_) (h3.bel ?_)) ?_; (focus (repeat (first | with_reducible exact Bel.refl _ | with_reducible assumption | apply Bel.ext | apply Bel.alloc | apply Bel.drew | exact Bel.refl _))); (focus (repeat (first | with_reducible exact Bel.refl _ | with_reducible assumption | apply Bel.ext | apply Bel.alloc | apply Bel.drew | exact Bel.refl _))); (focus (repeat (first | with_reducible exact Bel.refl _ | with_reducible assumption | apply Bel.ext | apply Bel.alloc | apply Bel.drew | exact Bel.refl _))); rintro ee ww ⟨rfl, _, rfl⟩) | (go_at_call 55; refine Calls.mono (VE.out _) ?_; rintro ee ww ⟨rfl, _, rfl⟩) | (go_at_call 68; refine Calls.mono (VC.out _ (hu.bel ?_)) ?_; (focus (repeat (first | with_reducible exact Bel.refl _ | with_reducible assumption | apply Bel.ext | apply Bel.alloc | apply Bel.drew | exact Bel.refl _))); rintro ee ww ⟨rfl, _, rfl⟩) | (go_at_call 62; refine Calls.mono (VM.out _) ?_; rintro ee ww ⟨rfl, rfl⟩) | (go_at_call 76; refine Calls.mono (VMo.out _ (h1.bel ?_) (h2.bel ?_) (h3.bel ?_)) ?_; (focus (repeat (first | with_reducible exact Bel.refl _ | with_reducible assumption | apply Bel.ext | apply Bel.alloc | apply Bel.drew | exact Bel.refl _))); (focus (repeat (first | with_reducible exact Bel.refl _ | with_reducible assumption | apply Bel.ext | apply Bel.alloc | apply Bel.drew | exact Bel.refl _))); (focus (repeat (first | with_reducible exact Bel.refl _ | with_reducible assumption | apply Bel.ext | apply Bel.alloc | apply Bel.drew | exact Bel.refl _))); rintro ee X0 ⟨v0, g0, rfl, hww, hown⟩; rw [← hww] at hown; have hwX : Bel w X0 := (by rw [hww]; (repeat (first | with_reducible exact Bel.refl _ | with_reducible assumption | apply Bel.ext | apply Bel.alloc | apply Bel.drew | exact Bel.refl _ | refine Bel.set ?_ (by first | (simp; done) | (simp [go_sem]; done) | omega) _))); have k0 : X0.cell? ⟨w.heap.size + 1, 0, none⟩ = some (.int .i64 e) := (by rw [hww]; simp [go_sem]); have k1 : X0.cell? ⟨w.heap.size + 1, 1, none⟩ = some (.int .i64 p) := (by rw [hww]; simp [go_sem]); have hz0 : w.heap.size + 1 + 1 < X0.heap.size := (by rw [hww]; refine Nat.lt_of_lt_of_le ?_ (bel_size (by (repeat (first | with_reducible exact Bel.refl _ | with_reducible assumption | apply Bel.ext | apply Bel.alloc | apply Bel.drew | exact Bel.refl _ | refine Bel.set ?_ (by first | (simp; done) | (simp [go_sem]; done) | omega) _)) : Bel (((w.alloc _).alloc _).alloc _) _)); simp); have t0 : X0.cell? ⟨w.heap.size + 1 + 1, 0, none⟩ = some (.int .i64 0) := (by rw [hww]; simp [go_sem]); have t1 : X0.cell? ⟨w.heap.size + 1 + 1, 1, none⟩ = some (.int .i64 0) := (by rw [hww]; simp [go_sem]); have t2 : X0.cell? ⟨w.heap.size + 1 + 1, 2, none⟩ = some (.int .i64 0) := (by rw [hww]; simp [go_sem]); have tf : ∀ j, X0.frozen? ⟨w.heap.size + 1 + 1, j, none⟩ = false := (by intro j; rw [hww]; simp [go_sem]); clear hww; obtain ⟨a0, c0, rfl, hle0, hcap0⟩ := own_len hown))
  have RS : Rd cel3 X0 (.slice a0 M c0) ((x, y, z) :: r) := rd_of_row (own_cast hown HM.out.symm rfl)
  clear hown
  obtain ⟨a0', M', c0', hv0, sm⟩ := RS.sl
  cases hv0
  obtain ⟨bb, off, rfl, hb⟩ := sm.base (k := 0) (by omega)
  obtain ⟨x', y', z', hx, d0, d1, d2⟩ := sm.at3 (k := 0) (by omega)
  have hx' := hx.out
  simp at hx'
  obtain ⟨rfl, rfl, rfl⟩ := hx'
  simp only [Nat.zero_mul, Nat.add_zero] at d0 d1 d2
  have HQ0 := Lib.hid (fun w hu => HQ.out x y z w (HOK.out (x, y, z) (by simp)) hu)
  unfold maxLen at hcap0
  have hz1 : w.heap.size + 1 < X0.heap.size := by omega
  have hz2 : w.heap.size < X0.heap.size := by omega
  go_region_held3 (fun q => q.cell? ⟨w.heap.size + 1, 0, none⟩ = some (.int .i64 e) ∧ q.cell? ⟨w.heap.size + 1, 1, none⟩ = some (.int .i64 p) ∧ q.cell? ⟨bb, off, none⟩ = some (.int .i64 x) ∧ q.cell? ⟨bb, off + 1, none⟩ = some (.int .i64 y) ∧ q.cell? ⟨bb, off + 2, none⟩ = some (.int .i64 z)) (simp [go_sem, *]) (first | (go_at_call 69; refine Calls.mono (HQ0.out _ (hu.bel ?_)) ?_; (focus (repeat (first | with_reducible exact Bel.refl _ | with_reducible assumption | apply Bel.ext | apply Bel.alloc | apply Bel.drew | exact Bel.refl _))); rintro ee ww ⟨rfl, gq, rfl⟩))
  have hB := box3_a (gq := gq) (u := .int .i64 x) (v := .int .i64 y) (t := .int .i64 z) (e := 25) (mem_nil X0)
  generalize ((ext X0.drew gq).alloc (.cells #[.int .i64 x, .int .i64 y, .int .i64 z] 25)) = X at *
  generalize (ext X0.drew gq).heap.size = q at *
  rotate_left
  have hB := box3_b (gq := gq) (u := .int .i64 x) (v := .int .i64 y) (t := .int .i64 z) (z1 := .int .i64 0) (z2 := .int .i64 0) (z3 := .int .i64 0) (e := 25) (mem_nil X0)
  generalize ((((ext (X0.alloc (.cells #[.int .i64 0, .int .i64 0, .int .i64 0] 25)).drew gq).setCell ⟨X0.heap.size, 0, none⟩ (.int .i64 x)).setCell ⟨X0.heap.size, 1, none⟩ (.int .i64 y)).setCell ⟨X0.heap.size, 2, none⟩ (.int .i64 z)) = X at *
  obtain ⟨q, hq⟩ : ∃ q, X0.heap.size = q := ⟨_, rfl⟩
  rw [hq] at hB ⊢
  clear hq
  all_goals
    rename_i hHeld
    clear hHeld
    obtain ⟨gx, hgx⟩ := ext_ex hB.bel
    subst hgx
    have HMB := Lib.hid hB
    clear hB
    by_cases hc1 : c0 = 1
    · have hM3 : M = 1 := by omega
      go_wp2
      go_loopw [12, 60] (fun s i wr => s = .int .i64 (F (x, y, z)) ∧ i = .int .i64 0 ∧ wr = ext X0 gx) (fun _ _ _ => 0)
      case atStart => exact ⟨rfl, rfl, rfl⟩
      case round =>
        obtain ⟨rfl, rfl, rfl⟩ := hrel
        have hMB := HMB.out
        have hr0 : r = [] := List.eq_nil_of_length_eq_zero (by have := HM.out; simp at this; omega)
        rw [hr0] at H
        obtain ⟨o1, o2, o3, o4, o5⟩ := mem_seen hMB 0 rfl (by omega)
        have G0 := o1 0 _ rfl
        have G1 := o1 1 _ rfl
        have G2 := o1 2 _ rfl
        clear o1
        go_wp2
        refine bodyPost_ret (v := .tuple #[.agg #[.int .i64 x, .int .i64 y, .int .i64 z], .int .i64 0]) (by simp (maxDischargeDepth := 8) [results, Try.results45, go_sem, *]) rfl (Ret.mk ?_ (?_ : Bel _ _))
        · exact H.out
        · (repeat (first | with_reducible exact Bel.refl _ | with_reducible assumption | apply Bel.ext | apply Bel.alloc | apply Bel.drew | exact Bel.refl _ | refine Bel.set ?_ (by first | (simp; done) | (simp [go_sem]; done) | omega) _))
    · go_wp2
      go_loopw [12, 60] (fun s i wr => ∃ (k : Nat) (b1 b2 b3 : Int), k ≤ M - 1 ∧ i = .int .i64 k ∧ s = .int .i64 (F (b1, b2, b3)) ∧ Hid (bestF F (x, y, z) r = bestF F (b1, b2, b3) (r.drop k)) ∧ Hid (Mem X0 wr [⟨.slice (some ⟨q, 0, none⟩) 1 1, 25, 3, 1, [.int .i64 b1, .int .i64 b2, .int .i64 b3]⟩])) (fun _ i _ => M - (intOf i).toNat)
      case atStart => exact ⟨0, x, y, z, Nat.zero_le _, rfl, rfl, Lib.hid rfl, HMB⟩
      case round =>
        obtain ⟨k, b1, b2, b3, hk, rfl, rfl, hv, hmb⟩ := hrel
        obtain ⟨g, rfl⟩ := ext_ex hmb.out.bel
        have hMB := hmb.out
        by_cases hlt : k < M - 1
        · obtain ⟨x', y', z', hx, d0', d1', d2'⟩ := sm.at3 (k := k + 1) (by omega)
          rw [show off + (k + 1) * 3 = off + 3 + k * 3 by omega] at d0' d1' d2'
          have hx1 : r[k]? = some (x', y', z') := by simpa using hx.out
          have HQ1 := Lib.hid (fun w hu => HQ.out x' y' z' w (HOK.out (x', y', z') (List.mem_of_getElem? hx.out)) hu)
          have HLT := Lib.hid (fun hl => bestF_lt (f := F) (x := (b1, b2, b3)) hx1 hl)
          have HGE := Lib.hid (fun hl => bestF_ge (f := F) (x := (b1, b2, b3)) hx1 hl)
          clear hx1
          by_cases hl : F (x', y', z') < F (b1, b2, b3)
          · have HN := Lib.hid (HLT.out hl)
            clear HLT HGE
            go_wp2_with fail
            have hM2 := mem_lit hMB 25 3 [.int .i64 x', .int .i64 y', .int .i64 z'] 1 rfl (by unfold maxLen; omega)
            obtain ⟨q2, hq2⟩ : ∃ q2, (ext X0 g).heap.size = q2 := ⟨_, rfl⟩
            rw [hq2] at hM2 ⊢
            clear hq2 hMB
            generalize (ext X0 g).alloc (.cells #[.int .i64 x', .int .i64 y', .int .i64 z'] 25) = Y at *
            refine Calls.mono (mem_ret hM2 (Bel.refl _) (HQ1.out _ (hu.bel (Below.trans hwX (Below.mono hM2.bel hwX.size))))) ?_
            rintro ee ww ⟨rfl, g3, rfl, hM3⟩
            obtain ⟨o1, o2, o3, o4, o5⟩ := mem_seen hM3 1 rfl (by omega)
            have G0 := o1 0 _ rfl
            have G1 := o1 1 _ rfl
            have G2 := o1 2 _ rfl
            obtain ⟨p1, p2, p3, p4, p5⟩ := mem_seen hM3 0 rfl (by omega)
            have P0 := p1 0 _ rfl
            have P1 := p1 1 _ rfl
            have P2 := p1 2 _ rfl
            have hM4 := mem_init (A := [_]) (B := [_]) hM3
            have HM4 := Lib.hid hM4
            clear o1 p1 hM2 hM3 hM4
            clear hmb
            go_wp2
            go_roundw
            case rel =>
              refine ⟨k + 1, x', y', z', by omega, by go_num, rfl, Lib.hid (hv.out.trans HN.out), Lib.hid ?_⟩
              exact box3_c HM4.out
            case measure => simp [intOf]; omega
          · have HN := Lib.hid (HGE.out hl)
            clear HLT HGE
            go_wp2_with fail
            have hM2 := mem_lit hMB 25 3 [.int .i64 x', .int .i64 y', .int .i64 z'] 1 rfl (by unfold maxLen; omega)
            obtain ⟨q2, hq2⟩ : ∃ q2, (ext X0 g).heap.size = q2 := ⟨_, rfl⟩
            rw [hq2] at hM2 ⊢
            clear hq2 hMB
            generalize (ext X0 g).alloc (.cells #[.int .i64 x', .int .i64 y', .int .i64 z'] 25) = Y at *
            refine Calls.mono (mem_ret hM2 (Bel.refl _) (HQ1.out _ (hu.bel (Below.trans hwX (Below.mono hM2.bel hwX.size))))) ?_
            rintro ee ww ⟨rfl, g3, rfl, hM3⟩
            obtain ⟨o1, o2, o3, o4, o5⟩ := mem_seen hM3 1 rfl (by omega)
            have G0 := o1 0 _ rfl
            have G1 := o1 1 _ rfl
            have G2 := o1 2 _ rfl
            obtain ⟨p1, p2, p3, p4, p5⟩ := mem_seen hM3 0 rfl (by omega)
            have P0 := p1 0 _ rfl
            have P1 := p1 1 _ rfl
            have P2 := p1 2 _ rfl
            have hM4 := mem_init (A := [_]) (B := [_]) hM3
            have HM4 := Lib.hid hM4
            clear o1 p1 hM2 hM3 hM4
            clear hmb
            go_wp2
            go_roundw
            case rel =>
              exact ⟨k + 1, b1, b2, b3, by omega, by go_num, rfl, Lib.hid (hv.out.trans HN.out), HM4⟩
            case measure => simp [intOf]; omega
        · have hr0 := Lib.hid (show r.drop k = [] from List.drop_of_length_le (by have := HM.out; simp at this; omega))
          have hv2 := hv.out
          rw [hr0.out] at hv2
          rw [hv2] at H
          clear hv hv2 hr0
          obtain ⟨o1, o2, o3, o4, o5⟩ := mem_seen hMB 0 rfl (by omega)
          have G0 := o1 0 _ rfl
          have G1 := o1 1 _ rfl
          have G2 := o1 2 _ rfl
          clear o1
          go_wp2
          refine bodyPost_ret (v := .tuple #[.agg #[.int .i64 b1, .int .i64 b2, .int .i64 b3], .int .i64 0]) (by simp (maxDischargeDepth := 8) [results, Try.results45, go_sem, *]) rfl (Ret.mk ?_ (?_ : Bel _ _))
          · exact H.out
          · (repeat (first | with_reducible exact Bel.refl _ | with_reducible assumption | apply Bel.ext | apply Bel.alloc | apply Bel.drew | exact Bel.refl _ | refine Bel.set ?_ (by first | (simp; done) | (simp [go_sem]; done) | omega) _))
set_option maxHeartbeats 8000000 in
theorem BestModel_c (u1 u2 u3 : Value) (A B C : List Int) (e p m : Int) (u : Value) (xs : List (Int × Int)) (w : World) (h1 : Rd celI w u1 A) (h2 : Rd celI w u2 B) (h3 : Rd celI w u3 C) (hu : Rd cel2 w u xs) :
    Calls Try.prog 45 #[.agg #[u1, u2, u3], .agg #[.int .i64 e, .int .i64 p], .int .i64 m, u] w (Ret (bestV (bestI A B C e p m xs)) w) := by
  refine hide_ret fun v H => ?_
  have VG := Lib.hid (fun w h1 h2 h3 => isGrid_c u1 u2 u3 A B C w h1 h2 h3)
  have VE := Lib.hid (fun w => ValidEphemeris_c e p w)
  have VC := Lib.hid (fun w hu => ValidCurve_c u xs w hu)
  have VM := Lib.hid (fun w => ValidMag_c m w)
  have hg := gridB_iff (A := A) (B := B) (C := C)
  unfold bestI at H
  obtain ⟨a1, n1, c1, rfl, s1⟩ := h1.sl
  obtain ⟨a2, n2, c2, rfl, s2⟩ := h2.sl
  obtain ⟨a3, n3, c3, rfl, s3⟩ := h3.sl
  obtain ⟨aa, n, cc, rfl, hs⟩ := hu.sl
  have hcap := hs.le; have hmax := hs.cap
  unfold maxLen at hmax
  have HL := Lib.hid hs.len
  clear s1 s2 s3
  rcases hG : gridB A B C with _ | _ <;> rw [hG] at VG H hg <;> rcases hE : ephB e p with _ | _ <;> rw [hE] at VE H <;> rcases hC : curveB xs with _ | _ <;> rw [hC] at VC H <;> rcases hMg : magB m with _ | _ <;> rw [hMg] at VM H <;> simp only [Bool.not_true, Bool.not_false, if_true, if_false, Bool.false_eq_true] at H
  case true.true.true.true =>
    simp only [Bool.or_self, Bool.false_eq_true, if_false] at H
    obtain ⟨_, _, _, f1, f2, f3, _⟩ := hg.1 rfl
    have VMo := Lib.hid (fun w h1 h2 h3 => models_c (.slice a1 n1 c1) (.slice a2 n2 c2) (.slice a3 n3 c3) A B C w h1 h2 h3 f1 f2 f3)
    unfold bestOf at H
    rcases hms : (prodL A B C).filter okM with _ | ⟨⟨x, y, z⟩, r⟩ <;> rw [hms] at VMo H <;> dsimp only at H
    · clear hg hG hE hC hMg f1 f2 f3 hms
      go_enter Try.func45, Try.ntmps45
      go_wp2_with (first | (go_at_call 75; refine Calls.mono (VG.out _ (h1.bel ?_) (h2.bel ?_) (h3.bel ?_)) ?_; (focus (repeat (first | with_reducible exact Bel.refl _ | with_reducible assumption | apply Bel.ext | apply Bel.alloc | apply Bel.drew | exact Bel.refl _))); (focus (repeat (first | with_reducible exact Bel.refl _ | with_reducible assumption | apply Bel.ext | apply Bel.alloc | apply Bel.drew | exact Bel.refl _))); (focus (repeat (first | with_reducible exact Bel.refl _ | with_reducible assumption | apply Bel.ext | apply Bel.alloc | apply Bel.drew | exact Bel.refl _))); rintro ee ww ⟨rfl, _, rfl⟩) | (go_at_call 55; refine Calls.mono (VE.out _) ?_; rintro ee ww ⟨rfl, _, rfl⟩) | (go_at_call 68; refine Calls.mono (VC.out _ (hu.bel ?_)) ?_; (focus (repeat (first | with_reducible exact Bel.refl _ | with_reducible assumption | apply Bel.ext | apply Bel.alloc | apply Bel.drew | exact Bel.refl _))); rintro ee ww ⟨rfl, _, rfl⟩) | (go_at_call 62; refine Calls.mono (VM.out _) ?_; rintro ee ww ⟨rfl, rfl⟩) | (go_at_call 76; refine Calls.mono (VMo.out _ (h1.bel ?_) (h2.bel ?_) (h3.bel ?_)) ?_; (focus (repeat (first | with_reducible exact Bel.refl _ | with_reducible assumption | apply Bel.ext | apply Bel.alloc | apply Bel.drew | exact Bel.refl _))); (focus (repeat (first | with_reducible exact Bel.refl _ | with_reducible assumption | apply Bel.ext | apply Bel.alloc | apply Bel.drew | exact Bel.refl _))); (focus (repeat (first | with_reducible exact Bel.refl _ | with_reducible assumption | apply Bel.ext | apply Bel.alloc | apply Bel.drew | exact Bel.refl _))); rintro ee ww ⟨v0, g0, rfl, rfl, hown⟩; obtain ⟨a0, c0, rfl, hle0, hcap0⟩ := own_len hown; clear hown))
      refine bodyPost_ret (v := .tuple #[.agg #[.int .i64 0, .int .i64 0, .int .i64 0], .int .i64 3]) (by simp (maxDischargeDepth := 8) [results, Try.results45, go_sem]) rfl (Ret.mk ?_ (?_ : Bel _ _))
      · exact H.out
      · (repeat (first | with_reducible exact Bel.refl _ | with_reducible assumption | apply Bel.ext | apply Bel.alloc | apply Bel.drew | exact Bel.refl _ | refine Bel.set ?_ (by first | (simp; done) | (simp [go_sem]; done) | omega) _))
    · rcases Nat.eq_zero_or_pos n with hn0 | hn0
      · rw [if_pos (by rw [← HL.out]; exact hn0)] at H
        subst hn0
        clear hg hG hE hC hMg f1 f2 f3 hms
        obtain ⟨M, hM0⟩ : ∃ M, ((x, y, z) :: r).length = M := ⟨_, rfl⟩
        rw [hM0] at VMo
        have hM2 : ((M : Int) == 0) = false := by rw [← hM0]; simp; omega
        clear hM0
        go_enter Try.func45, Try.ntmps45
        go_wp2_with (first | (go_at_call 75; refine Calls.mono (VG.out _ (h1.bel ?_) (h2.bel ?_) (h3.bel ?_)) ?_; (focus (repeat (first | with_reducible exact Bel.refl _ | with_reducible assumption | apply Bel.ext | apply Bel.alloc | apply Bel.drew | exact Bel.refl _))); (focus (repeat (first | with_reducible exact Bel.refl _ | with_reducible assumption | apply Bel.ext | apply Bel.alloc | apply Bel.drew | exact Bel.refl _))); (focus (repeat (first | with_reducible exact Bel.refl _ | with_reducible assumption | apply Bel.ext | apply Bel.alloc | apply Bel.drew | exact Bel.refl _))); rintro ee ww ⟨rfl, _, rfl⟩) | (go_at_call 55; refine Calls.mono (VE.out _) ?_; rintro ee ww ⟨rfl, _, rfl⟩) | (go_at_call 68; refine Calls.mono (VC.out _ (hu.bel ?_)) ?_; (focus (repeat (first | with_reducible exact Bel.refl _ | with_reducible assumption | apply Bel.ext | apply Bel.alloc | apply Bel.drew | exact Bel.refl _))); rintro ee ww ⟨rfl, _, rfl⟩) | (go_at_call 62; refine Calls.mono (VM.out _) ?_; rintro ee ww ⟨rfl, rfl⟩) | (go_at_call 76; refine Calls.mono (VMo.out _ (h1.bel ?_) (h2.bel ?_) (h3.bel ?_)) ?_; (focus (repeat (first | with_reducible exact Bel.refl _ | with_reducible assumption | apply Bel.ext | apply Bel.alloc | apply Bel.drew | exact Bel.refl _))); (focus (repeat (first | with_reducible exact Bel.refl _ | with_reducible assumption | apply Bel.ext | apply Bel.alloc | apply Bel.drew | exact Bel.refl _))); (focus (repeat (first | with_reducible exact Bel.refl _ | with_reducible assumption | apply Bel.ext | apply Bel.alloc | apply Bel.drew | exact Bel.refl _))); rintro ee ww ⟨v0, g0, rfl, rfl, hown⟩; obtain ⟨a0, c0, rfl, hle0, hcap0⟩ := own_len hown; clear hown))
        refine bodyPost_ret (v := .tuple #[.agg #[.int .i64 0, .int .i64 0, .int .i64 0], .int .i64 3]) (by simp (maxDischargeDepth := 8) [results, Try.results45, go_sem]) rfl (Ret.mk ?_ (?_ : Bel _ _))
        · exact H.out
        · (repeat (first | with_reducible exact Bel.refl _ | with_reducible assumption | apply Bel.ext | apply Bel.alloc | apply Bel.drew | exact Bel.refl _ | refine Bel.set ?_ (by first | (simp; done) | (simp [go_sem]; done) | omega) _))
      · rw [if_neg (by rw [← HL.out]; omega)] at H
        rw [← H.out]
        exact BestModel_ok _ _ _ A B C e p m _ xs w h1 h2 h3 hu hG hE hC hMg x y z r hms (by rw [← HL.out]; exact hn0)
  all_goals
    clear hg
    go_enter Try.func45, Try.ntmps45
    go_wp2_with (first | (go_at_call 75; refine Calls.mono (VG.out _ (h1.bel ?_) (h2.bel ?_) (h3.bel ?_)) ?_; (focus (repeat (first | with_reducible exact Bel.refl _ | with_reducible assumption | apply Bel.ext | apply Bel.alloc | apply Bel.drew | exact Bel.refl _))); (focus (repeat (first | with_reducible exact Bel.refl _ | with_reducible assumption | apply Bel.ext | apply Bel.alloc | apply Bel.drew | exact Bel.refl _))); (focus (repeat (first | with_reducible exact Bel.refl _ | with_reducible assumption | apply Bel.ext | apply Bel.alloc | apply Bel.drew | exact Bel.refl _))); rintro ee ww ⟨rfl, _, rfl⟩) | (go_at_call 55; refine Calls.mono (VE.out _) ?_; rintro ee ww ⟨rfl, _, rfl⟩) | (go_at_call 68; refine Calls.mono (VC.out _ (hu.bel ?_)) ?_; (focus (repeat (first | with_reducible exact Bel.refl _ | with_reducible assumption | apply Bel.ext | apply Bel.alloc | apply Bel.drew | exact Bel.refl _))); rintro ee ww ⟨rfl, _, rfl⟩) | (go_at_call 62; refine Calls.mono (VM.out _) ?_; rintro ee ww ⟨rfl, rfl⟩))
    first | (refine bodyPost_ret (v := .tuple #[.agg #[.int .i64 0, .int .i64 0, .int .i64 0], .int .i64 1]) (by simp (maxDischargeDepth := 8) [results, Try.results45, go_sem]) rfl (Ret.mk H.out (?_ : Bel _ _)); focus (repeat (first | with_reducible exact Bel.refl _ | with_reducible assumption | apply Bel.ext | apply Bel.alloc | apply Bel.drew | exact Bel.refl _ | refine Bel.set ?_ (by first | (simp; done) | (simp [go_sem]; done) | omega) _))) | (refine bodyPost_ret (v := .tuple #[.agg #[.int .i64 0, .int .i64 0, .int .i64 0], .int .i64 2]) (by simp (maxDischargeDepth := 8) [results, Try.results45, go_sem]) rfl (Ret.mk H.out (?_ : Bel _ _)); focus (repeat (first | with_reducible exact Bel.refl _ | with_reducible assumption | apply Bel.ext | apply Bel.alloc | apply Bel.drew | exact Bel.refl _ | refine Bel.set ?_ (by first | (simp; done) | (simp [go_sem]; done) | omega) _)))
end Go.Proofs.Ytjdcdcfhnpephaa
