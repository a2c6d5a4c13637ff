/- The model of a grid that fits a light curve best: the reference's side. -/
import Derived.Test.YtjdcdcfhnpephaaBest
namespace Go.Proofs.Ytjdcdcfhnpephaa
open Go.RowKit

set_option maxRecDepth 100000 in
set_option maxHeartbeats 1000000 in
theorem sBestModel_ok (u1 u2 u3 : Value) (A B C : List Int) (e p m : Int) (u : Value) (xs : List (Int × Int)) (w : World) (h1 : Rd celI w u1 A) (h2 : Rd celI w u2 B) (h3 : Rd celI w u3 C) (hu : Rd cel2 w u xs) (hG : gridB A B C = true) (hE : ephB e p = true) (hC : curveB xs = true) (hMg : magB m = true)
    (x y z : Int) (r : List (Int × Int × Int)) (hms : (prodL A B C).filter okM = (x, y, z) :: r) (hx0 : 0 < xs.length) :
    Calls Try.prog 44 #[.agg #[u1, u2, u3], .agg #[.int .i64 e, .int .i64 p], .int .i64 m, u] w (Ret (bestV (bestF (sqO e p m xs) (x, y, z) r, 0)) w) := by
  refine hide_ret fun v H => ?_
  have VG := Lib.hid (fun b W h1 h2 h3 hb k0 k1 k2 => l14Grid_c b u1 u2 u3 A B C W h1 h2 h3 hb k0 k1 k2)
  have VE := Lib.hid (fun w => l09Ok_c e p w)
  have VC := Lib.hid (fun w hu => l08Ok_c u xs w hu)
  have VM := Lib.hid (fun w => l02Mag_c m w)
  obtain ⟨_, _, _, f1, f2, f3, _⟩ := gridB_iff.1 hG
  obtain ⟨a1, n1, c1, rfl, s1⟩ := h1.sl
  obtain ⟨a2, n2, c2, rfl, s2⟩ := h2.sl
  obtain ⟨a3, n3, c3, rfl, s3⟩ := h3.sl
  obtain ⟨aa, n, cc, rfl, hs⟩ := hu.sl
  have hcap := hs.le; have hmax := hs.cap
  unfold maxLen at hmax
  have HL := Lib.hid hs.len
  rw [← HL.out] at hx0
  clear s1 s2 s3
  have VMo := Lib.hid (fun b W h1 h2 h3 hb k0 k1 k2 => l14Models_c b (.slice a1 n1 c1) (.slice a2 n2 c2) (.slice a3 n3 c3) A B C W h1 h2 h3 f1 f2 f3 hb k0 k1 k2)
  have hbd := modelsL_bd hG
  have HOK : Hid (∀ x ∈ (prodL A B C).filter okM, modelB x.1 x.2.1 x.2.2 = true) := Lib.hid (fun x hx => (List.mem_filter.1 hx).2)
  have HQ : Hid (∀ (a b c : Int) (w : World), modelB a b c = true → Rd cel2 w (.slice aa n cc) xs → Calls Try.prog 66 #[.agg #[.int .i64 a, .int .i64 b, .int .i64 c], .agg #[.int .i64 e, .int .i64 p], .int .i64 m, .slice aa n cc] w (Ret (.int .i64 (sqO e p m xs (a, b, c))) w)) := Lib.hid (fun a b c w hm hu => l14Squares_c a b c e p m _ xs hm hE hMg hC w hu)
  rw [hG] at VG
  rw [hE] at VE
  rw [hC] at VC
  rw [hMg] at VM
  rw [hms] at VMo hbd HOK
  clear hG hE hC hMg f1 f2 f3 hms
  generalize sqO e p m xs = F at *
  have hn1 : ((n : Int) == 0) = false := by simp; omega
  obtain ⟨M, hM0⟩ : ∃ M, ((x, y, z) :: r).length = M := ⟨_, rfl⟩
  rw [hM0] at VMo hbd
  have hM1 : 0 < M := by rw [← hM0]; simp
  have hM2 : ((M : Int) == 0) = false := by simp; omega
  have HM := Lib.hid hM0
  clear hM0
  go_enter Try.func44, Try.ntmps44
  go_wp2_with (first | (go_at_call 72; refine Calls.mono (VG.out _ _ (h1.bel ?_) (h2.bel ?_) (h3.bel ?_) (by first | (simp; done) | (simp [go_sem]; done)) (by simp [go_sem]) (by simp [go_sem]) (by simp [go_sem])) ?_; (focus (repeat (first | with_reducible exact Bel.refl _ | with_reducible assumption | apply Bel.ext | apply Bel.alloc | apply Bel.drew | exact Bel.refl _))); (focus (repeat (first | with_reducible exact Bel.refl _ | with_reducible assumption | apply Bel.ext | apply Bel.alloc | apply Bel.drew | exact Bel.refl _))); (focus (repeat (first | with_reducible exact Bel.refl _ | with_reducible assumption | apply Bel.ext | apply Bel.alloc | apply Bel.drew | exact Bel.refl _))); rintro ee ww ⟨rfl, _, rfl⟩) | (go_at_call 54; refine Calls.mono (VE.out _) ?_; rintro ee ww ⟨rfl, _, rfl⟩) | (go_at_call 65; refine Calls.mono (VC.out _ (hu.bel ?_)) ?_; (focus (repeat (first | with_reducible exact Bel.refl _ | with_reducible assumption | apply Bel.ext | apply Bel.alloc | apply Bel.drew | exact Bel.refl _))); rintro ee ww ⟨rfl, _, rfl⟩) | (go_at_call 59; refine Calls.mono (VM.out _) ?_; rintro ee ww ⟨rfl, rfl⟩) | (go_at_call 73; refine Calls.mono (VMo.out _ _ (h1.bel ?_) (h2.bel ?_) (h3.bel ?_) (by first | (simp; done) | (simp [go_sem]; done)) (by simp [go_sem]) (by simp [go_sem]) (by simp [go_sem])) ?_; (focus (repeat (first | with_reducible exact Bel.refl _ | with_reducible assumption | apply Bel.ext | apply Bel.alloc | apply Bel.drew | exact Bel.refl _))); (focus (repeat (first | with_reducible exact Bel.refl _ | with_reducible assumption | apply Bel.ext | apply Bel.alloc | apply Bel.drew | exact Bel.refl _))); (focus (repeat (first | with_reducible exact Bel.refl _ | with_reducible assumption | apply Bel.ext | apply Bel.alloc | apply Bel.drew | exact Bel.refl _))); rintro ee X0 ⟨v0, g0, rfl, hww, hown⟩; rw [← hww] at hown; have hwX : Bel w X0 := (by rw [hww]; (repeat (first | with_reducible exact Bel.refl _ | with_reducible assumption | apply Bel.ext | apply Bel.alloc | apply Bel.drew | exact Bel.refl _ | refine Bel.set ?_ (by first | (simp; done) | (simp [go_sem]; done) | omega) _))); have k0 : X0.cell? ⟨w.heap.size + 1, 0, none⟩ = some (.int .i64 e) := (by rw [hww]; simp [go_sem]); have k1 : X0.cell? ⟨w.heap.size + 1, 1, none⟩ = some (.int .i64 p) := (by rw [hww]; simp [go_sem]); have hz0 : w.heap.size + 1 + 1 < X0.heap.size := (by rw [hww]; refine Nat.lt_of_lt_of_le ?_ (bel_size (by (repeat (first | with_reducible exact Bel.refl _ | with_reducible assumption | apply Bel.ext | apply Bel.alloc | apply Bel.drew | exact Bel.refl _ | refine Bel.set ?_ (by first | (simp; done) | (simp [go_sem]; done) | omega) _)) : Bel (((w.alloc _).alloc _).alloc _) _)); simp); have t0 : X0.cell? ⟨w.heap.size + 1 + 1, 0, none⟩ = some (.int .i64 0) := (by rw [hww]; simp [go_sem]); have t1 : X0.cell? ⟨w.heap.size + 1 + 1, 1, none⟩ = some (.int .i64 0) := (by rw [hww]; simp [go_sem]); have t2 : X0.cell? ⟨w.heap.size + 1 + 1, 2, none⟩ = some (.int .i64 0) := (by rw [hww]; simp [go_sem]); have tf : ∀ j, X0.frozen? ⟨w.heap.size + 1 + 1, j, none⟩ = false := (by intro j; rw [hww]; simp [go_sem]); clear hww; obtain ⟨a0, c0, rfl, hle0, hcap0⟩ := own_len hown; have RS : Rd cel3 X0 (.slice a0 M c0) ((x, y, z) :: r) := rd_of_row (own_cast hown HM.out.symm rfl); clear hown; obtain ⟨a0', M', c0', hv0, sm⟩ := RS.sl; cases hv0; obtain ⟨bb, off, rfl, hb⟩ := sm.base (k := 0) (by omega); obtain ⟨x', y', z', hx, d0, d1, d2⟩ := sm.at3 (k := 0) (by omega); have hx' := hx.out; simp at hx'; obtain ⟨rfl, rfl, rfl⟩ := hx'; simp only [Nat.zero_mul, Nat.add_zero] at d0 d1 d2; have HQ0 := Lib.hid (fun w hu => HQ.out x y z w (HOK.out (x, y, z) (by simp)) hu); unfold maxLen at hcap0; have hz1 : w.heap.size + 1 < X0.heap.size := (by omega); have hz2 : w.heap.size < X0.heap.size := (by omega)))
  have hB := mem_lit (mem_nil X0) 25 3 [.int .i64 x, .int .i64 y, .int .i64 z] 1 rfl (by unfold maxLen; omega)
  simp only [List.nil_append] at hB
  obtain ⟨q, hq⟩ : ∃ q, X0.heap.size = q := ⟨_, rfl⟩
  rw [hq] at hB ⊢
  clear hq
  generalize X0.alloc (.cells #[.int .i64 x, .int .i64 y, .int .i64 z] 25) = Y at *
  refine Calls.mono (mem_ret hB (Bel.refl _) (HQ0.out _ (hu.bel (Below.trans hwX (Below.mono hB.bel hwX.size))))) ?_
  rintro ee ww ⟨rfl, gx, rfl, hB2⟩
  clear hB
  have HMB := Lib.hid hB2
  clear hB2
  go_wp2
  go_loopw [12, 13] (fun s i wr => ∃ (k : Nat) (b1 b2 b3 : Int), 1 ≤ k ∧ k ≤ M ∧ i = .int .i64 k ∧ s = .int .i64 (F (b1, b2, b3)) ∧ Hid (bestF F (x, y, z) r = bestF F (b1, b2, b3) (((x, y, z) :: r).drop k)) ∧ Hid (Mem X0 wr [⟨.slice (some ⟨q, 0, none⟩) 1 1, 25, 3, 1, [.int .i64 b1, .int .i64 b2, .int .i64 b3]⟩])) (fun _ i _ => M - (intOf i).toNat)
  case atStart => exact ⟨1, x, y, z, Nat.le_refl _, hM1, rfl, rfl, Lib.hid rfl, HMB⟩
  case round =>
    obtain ⟨k, b1, b2, b3, hk1, hk, rfl, rfl, hv, hmb⟩ := hrel
    obtain ⟨g, rfl⟩ := ext_ex hmb.out.bel
    by_cases hlt : k < M
    · obtain ⟨x', y', z', hx, d0', d1', d2'⟩ := sm.at3 (k := k) (by omega)
      have HQ1 := Lib.hid (fun w hu => HQ.out x' y' z' w (HOK.out (x', y', z') (List.mem_of_getElem? hx.out)) hu)
      have HLT := Lib.hid (fun hl => bestF_lt (f := F) (x := (b1, b2, b3)) hx.out hl)
      have HGE := Lib.hid (fun hl => bestF_ge (f := F) (x := (b1, b2, b3)) hx.out hl)
      have hxx := hwX
      go_wp2_with fail
      (refine region_ext (by kernel_rfl) (by kernel_rfl) ?_; (repeat (go_big_quiet_step (first | (go_at_call 66; exact Calls.in_ret (HQ1.out _ (hu.bel (by (repeat (first | with_reducible exact Bel.refl _ | with_reducible assumption | apply Bel.ext | apply Bel.alloc | apply Bel.drew | exact Bel.refl _ | refine Bel.set ?_ (by first | (simp; done) | (simp [go_sem]; done) | omega) _)) : Bel w _))))))); refine wpQuiet_nil ?_; rintro _ ⟨gy, rfl⟩)
      have hM5 := mem_bel hmb.out (by (repeat (first | with_reducible exact Bel.refl _ | with_reducible assumption | apply Bel.ext | apply Bel.alloc | apply Bel.drew | exact Bel.refl _ | refine Bel.set ?_ (by first | (simp; done) | (simp [go_sem]; done) | omega) _)) : Bel (ext X0 g) (ext (ext X0 g) gy))
      obtain ⟨gz, hgz⟩ := ext_ex hM5.bel
      rw [hgz] at hM5 ⊢
      obtain ⟨p1, p2, p3, p4, p5⟩ := mem_seen hM5 0 rfl (by omega)
      have P0 := p1 0 _ rfl
      have P1 := p1 1 _ rfl
      have P2 := p1 2 _ rfl
      have HM4 := Lib.hid hM5
      clear p1 hM5 hgz hmb
      by_cases hl : F (x', y', z') < F (b1, b2, b3)
      · have HN := Lib.hid (HLT.out hl)
        clear HLT HGE
        go_wp2
        go_roundw
        case rel =>
          refine ⟨k + 1, x', y', z', by omega, by omega, by go_num, rfl, Lib.hid (hv.out.trans HN.out), Lib.hid ?_⟩
          exact box3_c HM4.out
        case measure => simp [intOf]; omega
      · have HN := Lib.hid (HGE.out (Int.not_lt.1 hl))
        clear HLT HGE
        go_wp2
        go_roundw
        case rel =>
          exact ⟨k + 1, b1, b2, b3, by omega, by omega, by go_num, rfl, Lib.hid (hv.out.trans HN.out), HM4⟩
        case measure => simp [intOf]; omega
    · have hkM : k = M := by omega
      have hr0 := Lib.hid (show ((x, y, z) :: r).drop k = [] from List.drop_of_length_le (by have := HM.out; omega))
      have hv2 := hv.out
      rw [hr0.out] at hv2
      rw [hv2] at H
      have hMB := hmb.out
      clear hv hv2 hr0
      obtain ⟨o1, o2, o3, o4, o5⟩ := mem_seen hMB 0 rfl (by omega)
      have G0 := o1 0 _ rfl
      have G1 := o1 1 _ rfl
      have G2 := o1 2 _ rfl
      clear o1
      go_wp2
      refine bodyPost_ret (v := .tuple #[.agg #[.int .i64 b1, .int .i64 b2, .int .i64 b3], .int .i64 0]) (by simp (maxDischargeDepth := 8) [results, Try.results44, go_sem, *]) rfl (Ret.mk ?_ (?_ : Bel _ _))
      · exact H.out
      · (repeat (first | with_reducible exact Bel.refl _ | with_reducible assumption | apply Bel.ext | apply Bel.alloc | apply Bel.drew | exact Bel.refl _ | refine Bel.set ?_ (by first | (simp; done) | (simp [go_sem]; done) | omega) _))
set_option maxRecDepth 100000 in
set_option maxHeartbeats 8000000 in
theorem sBestModel_c (u1 u2 u3 : Value) (A B C : List Int) (e p m : Int) (u : Value) (xs : List (Int × Int)) (w : World) (h1 : Rd celI w u1 A) (h2 : Rd celI w u2 B) (h3 : Rd celI w u3 C) (hu : Rd cel2 w u xs) :
    Calls Try.prog 44 #[.agg #[u1, u2, u3], .agg #[.int .i64 e, .int .i64 p], .int .i64 m, u] w (Ret (bestV (bestI A B C e p m xs)) w) := by
  refine hide_ret fun v H => ?_
  have VG := Lib.hid (fun b W h1 h2 h3 hb k0 k1 k2 => l14Grid_c b u1 u2 u3 A B C W h1 h2 h3 hb k0 k1 k2)
  have VE := Lib.hid (fun w => l09Ok_c e p w)
  have VC := Lib.hid (fun w hu => l08Ok_c u xs w hu)
  have VM := Lib.hid (fun w => l02Mag_c m w)
  have hg := gridB_iff (A := A) (B := B) (C := C)
  unfold bestI at H
  obtain ⟨a1, n1, c1, rfl, s1⟩ := h1.sl
  obtain ⟨a2, n2, c2, rfl, s2⟩ := h2.sl
  obtain ⟨a3, n3, c3, rfl, s3⟩ := h3.sl
  obtain ⟨aa, n, cc, rfl, hs⟩ := hu.sl
  have hcap := hs.le; have hmax := hs.cap
  unfold maxLen at hmax
  have HL := Lib.hid hs.len
  clear s1 s2 s3
  rcases hG : gridB A B C with _ | _ <;> rw [hG] at VG H hg <;> rcases hE : ephB e p with _ | _ <;> rw [hE] at VE H <;> rcases hC : curveB xs with _ | _ <;> rw [hC] at VC H <;> rcases hMg : magB m with _ | _ <;> rw [hMg] at VM H <;> simp only [Bool.not_true, Bool.not_false, if_true, if_false, Bool.false_eq_true] at H
  case true.true.true.true =>
    simp only [Bool.or_self, Bool.false_eq_true, if_false] at H
    obtain ⟨_, _, _, f1, f2, f3, _⟩ := hg.1 rfl
    have VMo := Lib.hid (fun b W h1 h2 h3 hb k0 k1 k2 => l14Models_c b (.slice a1 n1 c1) (.slice a2 n2 c2) (.slice a3 n3 c3) A B C W h1 h2 h3 f1 f2 f3 hb k0 k1 k2)
    unfold bestOf at H
    rcases hms : (prodL A B C).filter okM with _ | ⟨⟨x, y, z⟩, r⟩ <;> rw [hms] at VMo H <;> dsimp only at H
    · clear hg hG hE hC hMg f1 f2 f3 hms
      go_enter Try.func44, Try.ntmps44
      go_wp2_with (first | (go_at_call 72; refine Calls.mono (VG.out _ _ (h1.bel ?_) (h2.bel ?_) (h3.bel ?_) (by first | (simp; done) | (simp [go_sem]; done)) (by simp [go_sem]) (by simp [go_sem]) (by simp [go_sem])) ?_; (focus (repeat (first | with_reducible exact Bel.refl _ | with_reducible assumption | apply Bel.ext | apply Bel.alloc | apply Bel.drew | exact Bel.refl _))); (focus (repeat (first | with_reducible exact Bel.refl _ | with_reducible assumption | apply Bel.ext | apply Bel.alloc | apply Bel.drew | exact Bel.refl _))); (focus (repeat (first | with_reducible exact Bel.refl _ | with_reducible assumption | apply Bel.ext | apply Bel.alloc | apply Bel.drew | exact Bel.refl _))); rintro ee ww ⟨rfl, _, rfl⟩) | (go_at_call 54; refine Calls.mono (VE.out _) ?_; rintro ee ww ⟨rfl, _, rfl⟩) | (go_at_call 65; refine Calls.mono (VC.out _ (hu.bel ?_)) ?_; (focus (repeat (first | with_reducible exact Bel.refl _ | with_reducible assumption | apply Bel.ext | apply Bel.alloc | apply Bel.drew | exact Bel.refl _))); rintro ee ww ⟨rfl, _, rfl⟩) | (go_at_call 59; refine Calls.mono (VM.out _) ?_; rintro ee ww ⟨rfl, rfl⟩) | (go_at_call 73; refine Calls.mono (VMo.out _ _ (h1.bel ?_) (h2.bel ?_) (h3.bel ?_) (by first | (simp; done) | (simp [go_sem]; done)) (by simp [go_sem]) (by simp [go_sem]) (by simp [go_sem])) ?_; (focus (repeat (first | with_reducible exact Bel.refl _ | with_reducible assumption | apply Bel.ext | apply Bel.alloc | apply Bel.drew | exact Bel.refl _))); (focus (repeat (first | with_reducible exact Bel.refl _ | with_reducible assumption | apply Bel.ext | apply Bel.alloc | apply Bel.drew | exact Bel.refl _))); (focus (repeat (first | with_reducible exact Bel.refl _ | with_reducible assumption | apply Bel.ext | apply Bel.alloc | apply Bel.drew | exact Bel.refl _))); rintro ee ww ⟨v0, g0, rfl, rfl, hown⟩; obtain ⟨a0, c0, rfl, hle0, hcap0⟩ := own_len hown; clear hown))
      refine bodyPost_ret (v := .tuple #[.agg #[.int .i64 0, .int .i64 0, .int .i64 0], .int .i64 3]) (by simp (maxDischargeDepth := 8) [results, Try.results44, go_sem]) rfl (Ret.mk ?_ (?_ : Bel _ _))
      · exact H.out
      · (repeat (first | with_reducible exact Bel.refl _ | with_reducible assumption | apply Bel.ext | apply Bel.alloc | apply Bel.drew | exact Bel.refl _ | refine Bel.set ?_ (by first | (simp; done) | (simp [go_sem]; done) | omega) _))
    · rcases Nat.eq_zero_or_pos n with hn0 | hn0
      · rw [if_pos (by rw [← HL.out]; exact hn0)] at H
        subst hn0
        clear hg hG hE hC hMg f1 f2 f3 hms
        obtain ⟨M, hM0⟩ : ∃ M, ((x, y, z) :: r).length = M := ⟨_, rfl⟩
        rw [hM0] at VMo
        have hM2 : ((M : Int) == 0) = false := by rw [← hM0]; simp; omega
        clear hM0
        go_enter Try.func44, Try.ntmps44
        go_wp2_with (first | (go_at_call 72; refine Calls.mono (VG.out _ _ (h1.bel ?_) (h2.bel ?_) (h3.bel ?_) (by first | (simp; done) | (simp [go_sem]; done)) (by simp [go_sem]) (by simp [go_sem]) (by simp [go_sem])) ?_; (focus (repeat (first | with_reducible exact Bel.refl _ | with_reducible assumption | apply Bel.ext | apply Bel.alloc | apply Bel.drew | exact Bel.refl _))); (focus (repeat (first | with_reducible exact Bel.refl _ | with_reducible assumption | apply Bel.ext | apply Bel.alloc | apply Bel.drew | exact Bel.refl _))); (focus (repeat (first | with_reducible exact Bel.refl _ | with_reducible assumption | apply Bel.ext | apply Bel.alloc | apply Bel.drew | exact Bel.refl _))); rintro ee ww ⟨rfl, _, rfl⟩) | (go_at_call 54; refine Calls.mono (VE.out _) ?_; rintro ee ww ⟨rfl, _, rfl⟩) | (go_at_call 65; refine Calls.mono (VC.out _ (hu.bel ?_)) ?_; (focus (repeat (first | with_reducible exact Bel.refl _ | with_reducible assumption | apply Bel.ext | apply Bel.alloc | apply Bel.drew | exact Bel.refl _))); rintro ee ww ⟨rfl, _, rfl⟩) | (go_at_call 59; refine Calls.mono (VM.out _) ?_; rintro ee ww ⟨rfl, rfl⟩) | (go_at_call 73; refine Calls.mono (VMo.out _ _ (h1.bel ?_) (h2.bel ?_) (h3.bel ?_) (by first | (simp; done) | (simp [go_sem]; done)) (by simp [go_sem]) (by simp [go_sem]) (by simp [go_sem])) ?_; (focus (repeat (first | with_reducible exact Bel.refl _ | with_reducible assumption | apply Bel.ext | apply Bel.alloc | apply Bel.drew | exact Bel.refl _))); (focus (repeat (first | with_reducible exact Bel.refl _ | with_reducible assumption | apply Bel.ext | apply Bel.alloc | apply Bel.drew | exact Bel.refl _))); (focus (repeat (first | with_reducible exact Bel.refl _ | with_reducible assumption | apply Bel.ext | apply Bel.alloc | apply Bel.drew | exact Bel.refl _))); rintro ee ww ⟨v0, g0, rfl, rfl, hown⟩; obtain ⟨a0, c0, rfl, hle0, hcap0⟩ := own_len hown; clear hown))
        refine bodyPost_ret (v := .tuple #[.agg #[.int .i64 0, .int .i64 0, .int .i64 0], .int .i64 3]) (by simp (maxDischargeDepth := 8) [results, Try.results44, go_sem]) rfl (Ret.mk ?_ (?_ : Bel _ _))
        · exact H.out
        · (repeat (first | with_reducible exact Bel.refl _ | with_reducible assumption | apply Bel.ext | apply Bel.alloc | apply Bel.drew | exact Bel.refl _ | refine Bel.set ?_ (by first | (simp; done) | (simp [go_sem]; done) | omega) _))
      · rw [if_neg (by rw [← HL.out]; omega)] at H
        rw [← H.out]
        exact sBestModel_ok _ _ _ A B C e p m _ xs w h1 h2 h3 hu hG hE hC hMg x y z r hms (by rw [← HL.out]; exact hn0)
  all_goals
    clear hg
    go_enter Try.func44, Try.ntmps44
    go_wp2_with (first | (go_at_call 72; refine Calls.mono (VG.out _ _ (h1.bel ?_) (h2.bel ?_) (h3.bel ?_) (by first | (simp; done) | (simp [go_sem]; done)) (by simp [go_sem]) (by simp [go_sem]) (by simp [go_sem])) ?_; (focus (repeat (first | with_reducible exact Bel.refl _ | with_reducible assumption | apply Bel.ext | apply Bel.alloc | apply Bel.drew | exact Bel.refl _))); (focus (repeat (first | with_reducible exact Bel.refl _ | with_reducible assumption | apply Bel.ext | apply Bel.alloc | apply Bel.drew | exact Bel.refl _))); (focus (repeat (first | with_reducible exact Bel.refl _ | with_reducible assumption | apply Bel.ext | apply Bel.alloc | apply Bel.drew | exact Bel.refl _))); rintro ee ww ⟨rfl, _, rfl⟩) | (go_at_call 54; refine Calls.mono (VE.out _) ?_; rintro ee ww ⟨rfl, _, rfl⟩) | (go_at_call 65; refine Calls.mono (VC.out _ (hu.bel ?_)) ?_; (focus (repeat (first | with_reducible exact Bel.refl _ | with_reducible assumption | apply Bel.ext | apply Bel.alloc | apply Bel.drew | exact Bel.refl _))); rintro ee ww ⟨rfl, _, rfl⟩) | (go_at_call 59; refine Calls.mono (VM.out _) ?_; rintro ee ww ⟨rfl, rfl⟩))
    first | (refine bodyPost_ret (v := .tuple #[.agg #[.int .i64 0, .int .i64 0, .int .i64 0], .int .i64 1]) (by simp (maxDischargeDepth := 8) [results, Try.results44, go_sem]) rfl (Ret.mk H.out (?_ : Bel _ _)); focus (repeat (first | with_reducible exact Bel.refl _ | with_reducible assumption | apply Bel.ext | apply Bel.alloc | apply Bel.drew | exact Bel.refl _ | refine Bel.set ?_ (by first | (simp; done) | (simp [go_sem]; done) | omega) _))) | (refine bodyPost_ret (v := .tuple #[.agg #[.int .i64 0, .int .i64 0, .int .i64 0], .int .i64 2]) (by simp (maxDischargeDepth := 8) [results, Try.results44, go_sem]) rfl (Ret.mk H.out (?_ : Bel _ _)); focus (repeat (first | with_reducible exact Bel.refl _ | with_reducible assumption | apply Bel.ext | apply Bel.alloc | apply Bel.drew | exact Bel.refl _ | refine Bel.set ?_ (by first | (simp; done) | (simp [go_sem]; done) | omega) _)))
end Go.Proofs.Ytjdcdcfhnpephaa
