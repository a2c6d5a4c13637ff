/- 'FnCounts' returns true, whatever the bytes; no condition. -/
import Derived.Test.YtlnpfggcmjljbaaFnCounts
import Derived.Test.YtlnpfggcmjljbaaBytes
namespace Go.Proofs.Ytlnpfggcmjljbaa.lawCounts
open Go.ChangeShapes Go.WideShapes Go.ChangeAt Go.RowKit

set_option maxRecDepth 100000 in
set_option maxHeartbeats 8000000 in
theorem walk (a_x : Option Addr) (n_x c_x : Nat) (xs : List Int) (a_y : Option Addr) (n_y c_y : Nat) (ys : List Int) (w : World) (hx : Sl celB w a_x n_x c_x xs ∧ bytesB xs) (hy : Sl celB w a_y n_y c_y ys ∧ bytesB ys) :
    Calls Try.prog 4 #[.slice a_x n_x c_x, .slice a_y n_y c_y] w (Ret (.bool true) w) := by
  refine hide_ret fun v H => ?_
  obtain ⟨hx, bx⟩ := hx
  obtain ⟨hy, bY⟩ := hy
  have hcap_x := hx.le; have hmax_x := hx.cap; have hcap_y := hy.le; have hmax_y := hy.cap
  unfold maxLen at hmax_x hmax_y
  have rx : ∀ x, Bel w x → Rd celB x (.slice a_x n_x c_x) xs := fun x h => hx.rd.bel h
  have ry : ∀ x, Bel w x → Rd celB x (.slice a_y n_y c_y) ys := fun x h => hy.rd.bel h
  have RX := Lib.hid rx
  have RY := Lib.hid ry
  have BX := Lib.hid bx
  have BY := Lib.hid bY
  clear rx ry bx bY
  have HL := Lib.hid (fun w => a2Long_c a_x a_y n_x n_y c_x c_y (by omega) (by omega) w)
  rcases hq : (decide (3000 < n_x) || decide (3000 < n_y)) with _ | _ <;> simp only [hq] at HL
  case true =>
    clear hq
    go_enter Try.func4, Try.ntmps4
    go_wp2_with (first | (go_at_call 19; refine Calls.mono (HL.out _) ?_; rintro ee ww ⟨rfl, _, rfl⟩))
    go_ret
    refine Ret.mk ?_ (?_ : Bel _ _)
    · exact H.out
    · (repeat (first | exact Bel.refl _ | apply Bel.ext | apply Bel.alloc | apply Bel.drew | refine Bel.set ?_ (by first | (simp; done) | (simp [go_sem]; done) | omega) _))
  clear hq
  go_enter Try.func4, Try.ntmps4
  go_wp2_with (first | (go_at_call 19; refine Calls.mono (HL.out _) ?_; rintro ee ww ⟨rfl, ga, rfl⟩))
  refine Calls.mono (a2At_c _ xs BX.out 0 256 (by omega) (by omega) (by omega) _ (RX.out _ ?_)) ?_
  · (repeat (first | exact Bel.refl _ | apply Bel.ext | apply Bel.alloc | apply Bel.drew | refine Bel.set ?_ (by first | (simp; done) | (simp [go_sem]; done) | omega) _))
  rintro ee ww ⟨r0, p0, q0, rfl, g0, rfl⟩
  go_wp2_with fail
  refine Calls.mono (a2At_c _ xs BX.out 1 256 (by omega) (by omega) (by omega) _ (RX.out _ ?_)) ?_
  · (repeat (first | exact Bel.refl _ | apply Bel.ext | apply Bel.alloc | apply Bel.drew | refine Bel.set ?_ (by first | (simp; done) | (simp [go_sem]; done) | omega) _))
  rintro ee ww ⟨r1, p1, q1, rfl, g1, rfl⟩
  go_wp2_with fail
  refine Calls.mono (a2At_c _ xs BX.out 2 40 (by omega) (by omega) (by omega) _ (RX.out _ ?_)) ?_
  · (repeat (first | exact Bel.refl _ | apply Bel.ext | apply Bel.alloc | apply Bel.drew | refine Bel.set ?_ (by first | (simp; done) | (simp [go_sem]; done) | omega) _))
  rintro ee ww ⟨r2, p2, q2, rfl, g2, rfl⟩
  go_wp2_with fail
  refine Calls.mono (a2At_c _ ys BY.out 0 256 (by omega) (by omega) (by omega) _ (RY.out _ ?_)) ?_
  · (repeat (first | exact Bel.refl _ | apply Bel.ext | apply Bel.alloc | apply Bel.drew | refine Bel.set ?_ (by first | (simp; done) | (simp [go_sem]; done) | omega) _))
  rintro ee ww ⟨r3, p3, q3, rfl, g3, rfl⟩
  go_wp2_with fail
  refine Calls.mono (a2At_c _ ys BY.out 1 60 (by omega) (by omega) (by omega) _ (RY.out _ ?_)) ?_
  · (repeat (first | exact Bel.refl _ | apply Bel.ext | apply Bel.alloc | apply Bel.drew | refine Bel.set ?_ (by first | (simp; done) | (simp [go_sem]; done) | omega) _))
  rintro ee ww ⟨r4, p4, q4, rfl, g4, rfl⟩
  go_wp2_with fail
  have hA : ∃ a, a = 10 * r0 := ⟨_, rfl⟩
  have hG : ∃ g, g = 1 + 40 * r1 + r2 := ⟨_, rfl⟩
  have hLo : ∃ l, l = 60 + r3 := ⟨_, rfl⟩
  have hHi : ∃ h, h = 60 + r3 + r4 := ⟨_, rfl⟩
  obtain ⟨a, hA⟩ := hA
  obtain ⟨g, hG⟩ := hG
  obtain ⟨l, hLo⟩ := hLo
  obtain ⟨h, hHi⟩ := hHi
  rw [← hHi, ← hLo, ← hG, ← hA]
  have a1 : 0 ≤ a := by omega
  have a2 : a ≤ 2550 := by omega
  have gg1 : 1 ≤ g := by omega
  have gg2 : g ≤ 10240 := by omega
  have l1 : 60 ≤ l := by omega
  have l2 : l ≤ 315 := by omega
  have h1 : l ≤ h := by omega
  have h2 : h ≤ 374 := by omega
  clear hA hG hLo hHi p0 q0 p1 q1 p2 q2 p3 q3 p4 q4
  obtain ⟨P, N, hC, c1, c2, c3, hIff⟩ := counts_good a1 a2 gg1 gg2 l1 l2 h1 h2
  obtain ⟨F, D, hP, d1, d2, f1, f2, hFD⟩ := per_good a1 a2 gg1 gg2 l1 l2
  have HP := Lib.hid (fun w => hP ▸ PeriodBetween_c 3 a (3 + l) (a + g) w)
  have HI := Lib.hid hIff
  have HFD := Lib.hid hFD
  have CB := fun w => CountsBetween_c a (a + g) l h w
  rw [hC] at CB
  dsimp only at CB
  clear hIff hP hFD hC
  refine Calls.mono (CB _) ?_
  rintro ee ww ⟨v0, gx, rfl, rfl, hown⟩
  clear CB
  have hrd := rd_of_row hown
  have hwA : Bel w (ext (ext (ext (ext (ext (ext (ext w ga) g0) g1) g2) g3) g4) gx) := by (repeat (first | exact Bel.refl _ | apply Bel.ext | apply Bel.alloc | apply Bel.drew | refine Bel.set ?_ (by first | (simp; done) | (simp [go_sem]; done) | omega) _))
  clear hown
  generalize ext (ext (ext (ext (ext (ext (ext w ga) g0) g1) g2) g3) g4) gx = A at hrd hwA ⊢
  obtain ⟨b0, n, c0, rfl, hs⟩ := hrd.sl
  have hcap := hs.le; have hmax := hs.cap
  unfold maxLen at hmax
  have HN := Lib.hid (show n = N by rw [hs.len, spanI_len])
  have hn2 : n ≤ 200 := by rw [HN.out]; exact c3
  go_wp2
  go_loopw [11] (fun i wr => ∃ k : Nat, k ≤ 200 ∧ i = .int .i64 ((k : Int) + 1) ∧ ∃ g, wr = ext A g) (fun i _ => 201 - (intOf i).toNat)
  case atStart => exact ⟨0, Nat.zero_le _, by go_num, ext_ex (Bel.refl _)⟩
  case round =>
    obtain ⟨k, hk, rfl, gw, rfl⟩ := hrel
    by_cases hlt : k < 200
    · have hltz : (k : Int) + 1 ≤ 200 := by omega
      obtain ⟨m1, m2⟩ := mulB (A := 315) (B := 200) (show 0 ≤ l by omega) l2 (show 0 ≤ (k : Int) + 1 by omega) hltz
      obtain ⟨m3, m4⟩ := mulB (A := 374) (B := 200) (show 0 ≤ h by omega) h2 (show 0 ≤ (k : Int) + 1 by omega) hltz
      have hany : ((spanI P N).any fun x => x == (k : Int) + 1) = decide (l * ((k : Int) + 1) ≤ g ∧ g ≤ h * ((k : Int) + 1)) := (any_span P ((k : Int) + 1) N).trans (decide_eq_decide.2 (HI.out ((k : Int) + 1)))
      have hHas := Lib.hid (fun u w hu => a2Has_c u (spanI P N) ((k : Int) + 1) w hu)
      by_cases t1 : l * ((k : Int) + 1) ≤ g
      · by_cases t2 : g ≤ h * ((k : Int) + 1)
        · rw [decide_eq_true ⟨t1, t2⟩] at hany
          simp only [hany] at hHas
          clear hany
          go_wp2_with (first | (go_at_call 22; refine Calls.mono (hHas.out _ _ (hrd.bel ?_)) ?_; (focus (repeat (first | exact Bel.refl _ | apply Bel.ext | apply Bel.alloc | apply Bel.drew | refine Bel.set ?_ (by first | (simp; done) | (simp [go_sem]; done) | omega) _))); rintro ee ww ⟨rfl, _, rfl⟩))
          go_roundw
          case rel => exact ⟨k + 1, by omega, by go_num, ext_ex (by (repeat (first | exact Bel.refl _ | apply Bel.ext | apply Bel.alloc | apply Bel.drew | refine Bel.set ?_ (by first | (simp; done) | (simp [go_sem]; done) | omega) _)) : Bel _ _)⟩
          case measure => simp [intOf]; omega
        · rw [decide_eq_false (fun e => t2 e.2)] at hany
          simp only [hany] at hHas
          clear hany
          go_wp2_with (first | (go_at_call 22; refine Calls.mono (hHas.out _ _ (hrd.bel ?_)) ?_; (focus (repeat (first | exact Bel.refl _ | apply Bel.ext | apply Bel.alloc | apply Bel.drew | refine Bel.set ?_ (by first | (simp; done) | (simp [go_sem]; done) | omega) _))); rintro ee ww ⟨rfl, _, rfl⟩))
          go_roundw
          case rel => exact ⟨k + 1, by omega, by go_num, ext_ex (by (repeat (first | exact Bel.refl _ | apply Bel.ext | apply Bel.alloc | apply Bel.drew | refine Bel.set ?_ (by first | (simp; done) | (simp [go_sem]; done) | omega) _)) : Bel _ _)⟩
          case measure => simp [intOf]; omega
      · rw [decide_eq_false (fun e => t1 e.1)] at hany
        simp only [hany] at hHas
        clear hany
        go_wp2_with (first | (go_at_call 22; refine Calls.mono (hHas.out _ _ (hrd.bel ?_)) ?_; (focus (repeat (first | exact Bel.refl _ | apply Bel.ext | apply Bel.alloc | apply Bel.drew | refine Bel.set ?_ (by first | (simp; done) | (simp [go_sem]; done) | omega) _))); rintro ee ww ⟨rfl, _, rfl⟩))
        go_roundw
        case rel => exact ⟨k + 1, by omega, by go_num, ext_ex (by (repeat (first | exact Bel.refl _ | apply Bel.ext | apply Bel.alloc | apply Bel.drew | refine Bel.set ?_ (by first | (simp; done) | (simp [go_sem]; done) | omega) _)) : Bel _ _)⟩
        case measure => simp [intOf]; omega
    · have hltz : ¬ (k : Int) + 1 ≤ 200 := by omega
      go_wp2
      go_loopw [12] (fun i wr => ∃ k : Nat, k ≤ n ∧ i = .int .i64 ((k : Int) + 1) ∧ ∃ g, wr = ext A g) (fun i _ => n + 1 - (intOf i).toNat)
      case atStart => exact ⟨0, Nat.zero_le _, by go_num, ext_ex (by (repeat (first | exact Bel.refl _ | apply Bel.ext | apply Bel.alloc | apply Bel.drew | refine Bel.set ?_ (by first | (simp; done) | (simp [go_sem]; done) | omega) _)) : Bel _ _)⟩
      case round =>
        obtain ⟨j, hj, rfl, gv, rfl⟩ := hrel
        by_cases hlt2 : j + 1 < n
        · obtain ⟨b, off, rfl, hb⟩ := hs.base hlt2
          obtain ⟨x, hx, hc0⟩ := hs.at1 (k := j) (by omega)
          obtain ⟨y, hy, hd0⟩ := hs.at1 hlt2
          have e1 := spanI_get P hx.out
          have e2 := spanI_get P hy.out
          have hxy : ¬ y ≤ x := by omega
          have w1 : IntKind.i64.wrap ((j : Int) + 1 - 1) = (j : Int) := by rw [show (j : Int) + 1 - 1 = j from by omega]; exact IntWalk.i64_in _ (by omega)
          have hltz2 : (j : Int) + 1 < n := by omega
          have q1 : ((j : Int) + 1).toNat = j + 1 := by omega
          clear e1 e2
          go_wp2_with fail
          refine region_ext (by kernel_rfl) (by kernel_rfl) ?_
          repeat (go_big_quiet_step (fail))
          refine wpQuiet_nil ?_
          rintro _ ⟨_, rfl⟩
          clear w1 q1
          go_wp2
          go_roundw
          case rel => exact ⟨j + 1, by omega, by go_num, ext_ex (by (repeat (first | exact Bel.refl _ | apply Bel.ext | apply Bel.alloc | apply Bel.drew | refine Bel.set ?_ (by first | (simp; done) | (simp [go_sem]; done) | omega) _)) : Bel _ _)⟩
          case measure => simp [intOf]; omega
        · have hltz2 : ¬ (j : Int) + 1 < n := by omega
          obtain ⟨m1, m2⟩ := mulB (A := 10240) (B := 315) f1 f2 (show 0 ≤ l by omega) l2
          obtain ⟨m3, m4⟩ := mulB (A := 10240) (B := 315) (show 0 ≤ g by omega) gg2 (show 0 ≤ D by omega) d2
          have hEq : (F * l == g * D) = true := by rw [HFD.out]; simp
          go_wp2_with (first | (go_at_call 23; refine Calls.mono (HP.out _) ?_; rintro ee ww ⟨rfl, _, rfl⟩))
          go_ret
          refine Ret.mk ?_ ?_
          · first | exact H.out | (rw [← H.out]; rfl)
          · exact Below.trans hwA (Below.mono (by (repeat (first | exact Bel.refl _ | apply Bel.ext | apply Bel.alloc | apply Bel.drew | refine Bel.set ?_ (by first | (simp; done) | (simp [go_sem]; done) | omega) _)) : Bel A _) hwA.size)

set_option maxRecDepth 100000 in
theorem lifted (os : Os) (started : os.Started) (H : Type) (enc : TypeId × Value → H) :
    ReturnsInHanded {} Try.checked os 4 .any (Rows.fnCountsSpec.pre6 enc Try.prog Try.f4 Rows.fnCountsRow.domain false) (Rows.fnCountsSpec.post enc Try.prog Try.f4 false true false false) := by
  refine returnsInHanded_of_change (C := Try.checked) own started (by kernel_rfl) Try.func4
    (ChangeSpec.witness6 (enc := enc) (C := Try.checked) false ⟨#[], #[.slice none 0 0, .slice none 0 0], []⟩ 8 (by kernel_rfl) (by kernel_rfl) (by kernel_rfl) (by kernel_rfl)) ?_
  intro W base args ds gs before hval0 hW _ _
  have hval : ∀ (j : Nat) t v, Try.f4.params[j]? = some t → args[j]? = some v → Value.okWide Try.prog W .any base t v := hval0
  have hW' := hW
  obtain ⟨p, q, hA0, hV, rfl, hfz, hnd⟩ := hW
  have hA : DataW.TrodAll enc Try.prog W 0 (fun _ => true) true Try.f4.params.toList args.toList ds p := hA0
  have hlt : ∀ x ∈ p, x.block < W.heap.size := fun x hx => hW'.lt x (by simp [hx])
  rw [Try.params4] at hA hval
  have hK := hA
  obtain ⟨v0, vs0, d0, ds0, p0, q0, hargs, rfl, rfl, h0, r0⟩ := trodAll_cons hA
  obtain ⟨v1, vs1, d1, ds1, p1, q1, rfl, rfl, rfl, h1, r1⟩ := trodAll_cons r0
  obtain ⟨rfl, rfl, rfl⟩ := trodAll_nil r1
  obtain rfl : args = #[v0, v1] := by cases args; simp_all
  obtain ⟨rfl, rfl⟩ := trodVars_none hV
  obtain ⟨a0, n0, cp0, xs0, rfl, hs0⟩ := open_slB Try.underlying29 Try.underlying5 (by kernel_rfl) (hval 0 29 v0 rfl rfl) h0
  obtain ⟨a1, n1, cp1, xs1, rfl, hs1⟩ := open_slB Try.underlying29 Try.underlying5 (by kernel_rfl) (hval 1 29 v1 rfl rfl) h1
  refine (walk a0 n0 cp0 xs0 a1 n1 cp1 xs1 W hs0 hs1).mono fun e W' ⟨he, g, hg⟩ => ?_
  subst he
  have hb : Below W.heap.size W W' := by rw [hg]; exact ext_below W g
  have hARG := trodAll_below hb _ (by kernel_rfl) hlt hK
  exact ⟨_, rfl, [d0, d1], [], _, [], p0 ++ (p1 ++ ([])), [], hW', trodAll_cons_mk (shut_bool Try.underlying4 _) trodAll_mk0, hARG, rfl, hb.frame _, fun h => by cases h⟩

theorem over : Rows.fnCountsRow.holds Try.pinned (OpenSpec.ofChange Rows.fnCountsSpec) :=
  OpenClaim.holds_of_wide 4 Try.f4 rfl rfl rfl rfl rfl rfl rfl ⟨rfl, rfl, rfl, rfl, rfl⟩ rfl rfl rfl rfl rfl (by kernel_rfl) Try.func4 (by kernel_rfl)
    (of_decide_eq_true (by kernel_rfl)) (by unfold Func.isWrapper; first | (rw [if_pos (by decide +kernel)]; kernel_rfl) | (rw [if_neg (by decide +kernel)]; exact ⟨rfl, rfl⟩))
    (fun os started H enc _ => lifted os started H enc)

theorem proved : Rows.FnCountsSaid := over
end Go.Proofs.Ytlnpfggcmjljbaa.lawCounts
